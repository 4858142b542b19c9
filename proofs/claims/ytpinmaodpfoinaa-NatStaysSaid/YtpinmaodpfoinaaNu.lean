import Derived.Test.YtpinmaodpfoinaaSxX
import Derived.Test.YtpinmaodpfoinaaProg
import Derived.Test.YtpinmaodpfoinaaNtb
set_option linter.unusedVariables false
set_option linter.unusedSimpArgs false
namespace Go.Proofs.Ytpinmaodpfoinaa
open Go.RowKit Go.Ch Go.Sx

def tabL_nu : List (TypeId × Ti) := [(3, ⟨.int .i64, 1, 8, true, some [.int .i64]⟩),
  (23, ⟨.sl 45, 1, 24, false, some [.nils]⟩),
  (32, ⟨.sl 3, 1, 24, false, some [.nils]⟩),
  (45, ⟨.int .u32, 1, 4, true, some [.int .u32]⟩)]
def tab_nu : Tab := fun t => (tabL_nu).lookup t
theorem tabE_nu : (tabL_nu.map fun p => tiOf Try.prog p.1) = tabL_nu.map fun p => some p.2 := by kernel_rfl
theorem tabO_nu : TabOk Try.prog tab_nu := tab_of tabE_nu

def llight (n : Nat) (a0 : List UInt32) : Option (Bool) :=
  some (decide (((a0.length : Nat) : Int) ≤ (100 : Int)))
def rtrim_l1 (n : Nat) (a0 : List Int) : Nat → Int → Option (List Int × Nat)
  | 0, _ => none
  | fu_l1 + 1, i3_2 =>
    bif (decide ((0 : Int) < i3_2)) then
      gd (okI .i64 (i3_2 - 1)) <|
      gd (0 ≤ (i3_2 - 1)) <|
      gd ((i3_2 - 1) < ((a0.length : Nat) : Int)) <|
      bif ((a0.getD ((i3_2 - 1).toNat) 0) == 0) then
        gd (okI .i64 (i3_2 - 1)) <|
        (rtrim_l1 n a0 fu_l1) (i3_2 - 1)
      else
        gd (0 ≤ i3_2) <|
        gd (i3_2 ≤ ((a0.length : Nat) : Int)) <|
        some (a0, i3_2.toNat)
    else
      gd (0 ≤ i3_2) <|
      gd (i3_2 ≤ ((a0.length : Nat) : Int)) <|
      some (a0, i3_2.toNat)
def rtrim (n : Nat) (a0 : List Int) : Option (List Int × Nat) :=
  rtrim_l1 n a0 n ((a0.length : Nat) : Int)
def rOf_l1 (n : Nat) (a0 : List UInt32) : Nat → List Int → Int → Option (List Int × Nat)
  | 0, _, _ => none
  | fu_l1 + 1, z3_2, i4_2 =>
    bif (decide (i4_2 < ((a0.length : Nat) : Int))) then
      gd (0 ≤ i4_2) <|
      gd (i4_2 < ((a0.length : Nat) : Int)) <|
      gd ((65536 : UInt32) ≠ 0) <|
      gd (0 ≤ i4_2) <|
      gd (i4_2 < ((a0.length : Nat) : Int)) <|
      gd ((65536 : UInt32) ≠ 0) <|
      gd (rmB (z3_2.length + 2) 8) <|
      gd (okI .i64 (i4_2 + 1)) <|
      (rOf_l1 n a0 fu_l1) (z3_2 ++ [((((a0.getD i4_2.toNat 0) % (65536 : UInt32)).toNat : Nat) : Int), ((((a0.getD i4_2.toNat 0) / (65536 : UInt32)).toNat : Nat) : Int)]) (i4_2 + 1)
    else
      (rtrim n z3_2).bind fun r27_2 =>
      some (((z3_2.drop 0).take r27_2.2), r27_2.2)
def rOf (n : Nat) (a0 : List UInt32) : Option (List Int × Nat) :=
  rOf_l1 n a0 n [] 0
def rMay (n : Nat) (a0 : List UInt32) : Option (Bool) :=
  (rOf n a0).bind fun r4 =>
  some (decide (((r4.2 : Nat) : Int) ≤ (128 : Int)))
def rCmp_l1 (n : Nat) (a0 : List Int) (a1 : List Int) : Nat → Int → Option (Int)
  | 0, _ => none
  | fu_l1 + 1, i5_2 =>
    bif (decide ((0 : Int) ≤ i5_2)) then
      gd (0 ≤ i5_2) <|
      gd (i5_2 < ((a0.length : Nat) : Int)) <|
      gd (0 ≤ i5_2) <|
      gd (i5_2 < ((a1.length : Nat) : Int)) <|
      bif ((a0.getD i5_2.toNat 0) != (a1.getD i5_2.toNat 0)) then
        gd (0 ≤ i5_2) <|
        gd (i5_2 < ((a0.length : Nat) : Int)) <|
        gd (0 ≤ i5_2) <|
        gd (i5_2 < ((a1.length : Nat) : Int)) <|
        bif (decide ((a0.getD i5_2.toNat 0) < (a1.getD i5_2.toNat 0))) then
          some (-1)
        else
          some 1
      else
        gd (okI .i64 (i5_2 - 1)) <|
        (rCmp_l1 n a0 a1 fu_l1) (i5_2 - 1)
    else
      some 0
def rCmp (n : Nat) (a0 : List Int) (a1 : List Int) : Option (Int) :=
  bif (((a0.length : Nat) : Int) != ((a1.length : Nat) : Int)) then
    bif (decide (((a0.length : Nat) : Int) < ((a1.length : Nat) : Int))) then
      some (-1)
    else
      some 1
  else
    gd (okI .i64 (((a0.length : Nat) : Int) - 1)) <|
    rCmp_l1 n a0 a1 n (((a0.length : Nat) : Int) - 1)
def rdigit (n : Nat) (a0 : List Int) (a1 : Int) : Option (Int) :=
  bif (decide (a1 < ((a0.length : Nat) : Int))) then
    gd (0 ≤ a1) <|
    gd (a1 < ((a0.length : Nat) : Int)) <|
    some (a0.getD a1.toNat 0)
  else
    some 0
def rfit_j1 (n : Nat) (i6_2 : Int) : Option (Int) :=
  bif (i6_2 == 0) then
    some 1
  else
    some i6_2
def rfit (n : Nat) (a0 : List Int) (a1 : List Int) : Option (Int) :=
  bif (((a1.length : Nat) : Int) == 1) then
    (rdigit n a0 1).bind fun r12 =>
    gd (okI .i64 (r12 * 65536)) <|
    (rdigit n a0 0).bind fun r15 =>
    gd (okI .i64 ((r12 * 65536) + r15)) <|
    gd (0 ≤ (0 : Int)) <|
    gd ((0 : Int) < ((a1.length : Nat) : Int)) <|
    gd ((a1.getD 0 0) ≠ 0) <|
    gd (okI .i64 (Int.tdiv ((r12 * 65536) + r15) (a1.getD 0 0))) <|
    rfit_j1 n (Int.tdiv ((r12 * 65536) + r15) (a1.getD 0 0))
  else
    (rdigit n a0 ((a1.length : Nat) : Int)).bind fun r23 =>
    gd (okI .i64 (r23 * 65536)) <|
    gd (okI .i64 (((a1.length : Nat) : Int) - 1)) <|
    (rdigit n a0 (((a1.length : Nat) : Int) - 1)).bind fun r28 =>
    gd (okI .i64 ((r23 * 65536) + r28)) <|
    gd (okI .i64 (((r23 * 65536) + r28) * 65536)) <|
    gd (okI .i64 (((a1.length : Nat) : Int) - 2)) <|
    (rdigit n a0 (((a1.length : Nat) : Int) - 2)).bind fun r34 =>
    gd (okI .i64 ((((r23 * 65536) + r28) * 65536) + r34)) <|
    gd (okI .i64 (((a1.length : Nat) : Int) - 1)) <|
    gd (0 ≤ (((a1.length : Nat) : Int) - 1)) <|
    gd ((((a1.length : Nat) : Int) - 1) < ((a1.length : Nat) : Int)) <|
    gd (okI .i64 ((a1.getD ((((a1.length : Nat) : Int) - 1).toNat) 0) * 65536)) <|
    gd (okI .i64 (((a1.length : Nat) : Int) - 2)) <|
    gd (0 ≤ (((a1.length : Nat) : Int) - 2)) <|
    gd ((((a1.length : Nat) : Int) - 2) < ((a1.length : Nat) : Int)) <|
    gd (okI .i64 (((a1.getD ((((a1.length : Nat) : Int) - 1).toNat) 0) * 65536) + (a1.getD ((((a1.length : Nat) : Int) - 2).toNat) 0))) <|
    gd (okI .i64 ((((a1.getD ((((a1.length : Nat) : Int) - 1).toNat) 0) * 65536) + (a1.getD ((((a1.length : Nat) : Int) - 2).toNat) 0)) + 1)) <|
    gd (((((a1.getD ((((a1.length : Nat) : Int) - 1).toNat) 0) * 65536) + (a1.getD ((((a1.length : Nat) : Int) - 2).toNat) 0)) + 1) ≠ 0) <|
    gd (okI .i64 (Int.tdiv ((((r23 * 65536) + r28) * 65536) + r34) ((((a1.getD ((((a1.length : Nat) : Int) - 1).toNat) 0) * 65536) + (a1.getD ((((a1.length : Nat) : Int) - 2).toNat) 0)) + 1))) <|
    rfit_j1 n (Int.tdiv ((((r23 * 65536) + r28) * 65536) + r34) ((((a1.getD ((((a1.length : Nat) : Int) - 1).toNat) 0) * 65536) + (a1.getD ((((a1.length : Nat) : Int) - 2).toNat) 0)) + 1))
def rMul_l2 (n : Nat) (a0 : List Int) (a1 : List Int) (i6_2 : Int) (k_l1 : (List Int) → Int → Option (List Int × Nat)) : Nat → List Int → Int → Int → Option (List Int × Nat)
  | 0, _, _, _ => none
  | fu_l2 + 1, z5_11, i7_8, i8_8 =>
    bif (decide (i8_8 < ((a1.length : Nat) : Int))) then
      gd (0 ≤ i6_2) <|
      gd (i6_2 < ((a0.length : Nat) : Int)) <|
      gd (0 ≤ i8_8) <|
      gd (i8_8 < ((a1.length : Nat) : Int)) <|
      gd (okI .i64 ((a0.getD i6_2.toNat 0) * (a1.getD i8_8.toNat 0))) <|
      gd (okI .i64 (i7_8 + ((a0.getD i6_2.toNat 0) * (a1.getD i8_8.toNat 0)))) <|
      gd (okI .i64 (i6_2 + i8_8)) <|
      gd (0 ≤ (i6_2 + i8_8)) <|
      gd ((i6_2 + i8_8) < (((((a0.length : Nat) : Int) + ((a1.length : Nat) : Int)).toNat : Nat) : Int)) <|
      gd (okI .i64 ((i7_8 + ((a0.getD i6_2.toNat 0) * (a1.getD i8_8.toNat 0))) + (z5_11.getD ((i6_2 + i8_8).toNat) 0))) <|
      gd (okI .i64 (i6_2 + i8_8)) <|
      gd ((65536 : Int) ≠ 0) <|
      gd (0 ≤ (i6_2 + i8_8)) <|
      gd ((i6_2 + i8_8) < (((((a0.length : Nat) : Int) + ((a1.length : Nat) : Int)).toNat : Nat) : Int)) <|
      gd ((65536 : Int) ≠ 0) <|
      gd (okI .i64 (Int.tdiv ((i7_8 + ((a0.getD i6_2.toNat 0) * (a1.getD i8_8.toNat 0))) + (z5_11.getD ((i6_2 + i8_8).toNat) 0)) 65536)) <|
      gd (okI .i64 (i8_8 + 1)) <|
      (rMul_l2 n a0 a1 i6_2 k_l1 fu_l2) (z5_11.set ((i6_2 + i8_8).toNat) (Int.tmod ((i7_8 + ((a0.getD i6_2.toNat 0) * (a1.getD i8_8.toNat 0))) + (z5_11.getD ((i6_2 + i8_8).toNat) 0)) 65536)) (Int.tdiv ((i7_8 + ((a0.getD i6_2.toNat 0) * (a1.getD i8_8.toNat 0))) + (z5_11.getD ((i6_2 + i8_8).toNat) 0)) 65536) (i8_8 + 1)
    else
      gd (okI .i64 (i6_2 + ((a1.length : Nat) : Int))) <|
      gd (0 ≤ (i6_2 + ((a1.length : Nat) : Int))) <|
      gd ((i6_2 + ((a1.length : Nat) : Int)) < (((((a0.length : Nat) : Int) + ((a1.length : Nat) : Int)).toNat : Nat) : Int)) <|
      gd (okI .i64 (i6_2 + 1)) <|
      k_l1 (z5_11.set ((i6_2 + ((a1.length : Nat) : Int)).toNat) i7_8) (i6_2 + 1)
def rMul_l1 (n : Nat) (a0 : List Int) (a1 : List Int) : Nat → List Int → Int → Option (List Int × Nat)
  | 0, _, _ => none
  | fu_l1 + 1, z5_9, i6_2 =>
    bif (decide (i6_2 < ((a0.length : Nat) : Int))) then
      rMul_l2 n a0 a1 i6_2 (rMul_l1 n a0 a1 fu_l1) n z5_9 0 0
    else
      (rtrim n z5_9).bind fun r62_2 =>
      some (((z5_9.drop 0).take r62_2.2), r62_2.2)
def rMul (n : Nat) (a0 : List Int) (a1 : List Int) : Option (List Int × Nat) :=
  gd (okI .i64 (((a0.length : Nat) : Int) + ((a1.length : Nat) : Int))) <|
  gd (0 ≤ (((a0.length : Nat) : Int) + ((a1.length : Nat) : Int))) <|
  gd ((((a0.length : Nat) : Int) + ((a1.length : Nat) : Int)) = (((a0.length : Nat) : Int) + ((a1.length : Nat) : Int))) <|
  gd (rmB ((((a0.length : Nat) : Int) + ((a1.length : Nat) : Int)).toNat) 8) <|
  rMul_l1 n a0 a1 n (List.replicate ((((a0.length : Nat) : Int) + ((a1.length : Nat) : Int)).toNat) 0) 0
def rSub_j1 (n : Nat) (a0 : List Int) (a1 : List Int) (z5_2 : List Int) (i7_2 : Int) (k_l1 : (List Int) → Int → Int → Option (List Int × Nat)) (i6_11 : Int) (i8_8 : Int) : Option (List Int × Nat) :=
  gd (rmB (z5_2.length + 1) 8) <|
  gd (okI .i64 (i7_2 + 1)) <|
  k_l1 (z5_2 ++ [i8_8]) i6_11 (i7_2 + 1)
def rSub_l1 (n : Nat) (a0 : List Int) (a1 : List Int) : Nat → List Int → Int → Int → Option (List Int × Nat)
  | 0, _, _, _ => none
  | fu_l1 + 1, z5_2, i6_9, i7_2 =>
    bif (decide (i7_2 < ((a0.length : Nat) : Int))) then
      gd (0 ≤ i7_2) <|
      gd (i7_2 < ((a0.length : Nat) : Int)) <|
      (rdigit n a1 i7_2).bind fun r21_3 =>
      gd (okI .i64 ((a0.getD i7_2.toNat 0) - r21_3)) <|
      gd (okI .i64 (((a0.getD i7_2.toNat 0) - r21_3) - i6_9)) <|
      bif (decide ((((a0.getD i7_2.toNat 0) - r21_3) - i6_9) < (0 : Int))) then
        gd (okI .i64 ((((a0.getD i7_2.toNat 0) - r21_3) - i6_9) + 65536)) <|
        rSub_j1 n a0 a1 z5_2 i7_2 (rSub_l1 n a0 a1 fu_l1) 1 ((((a0.getD i7_2.toNat 0) - r21_3) - i6_9) + 65536)
      else
        rSub_j1 n a0 a1 z5_2 i7_2 (rSub_l1 n a0 a1 fu_l1) 0 (((a0.getD i7_2.toNat 0) - r21_3) - i6_9)
    else
      (rtrim n z5_2).bind fun r34_2 =>
      some (((z5_2.drop 0).take r34_2.2), r34_2.2)
def rSub (n : Nat) (a0 : List Int) (a1 : List Int) : Option (List Int × Nat) :=
  rSub_l1 n a0 a1 n [] 0 0
def rDiv_l2 (n : Nat) (a0 : List Int) (a1 : List Int) (i8_1 : Int) (k_l1 : (List Int) → (List Int) → Nat → Int → Option (List Int × Nat × List Int × Nat)) : Nat → List Int → List Int → Nat → Option (List Int × Nat × List Int × Nat)
  | 0, _, _, _ => none
  | fu_l2 + 1, z6_7, z7_7, m7_7 =>
    (rCmp n z7_7 a1).bind fun r30_8 =>
    bif (decide ((0 : Int) ≤ r30_8)) then
      (rfit n z7_7 a1).bind fun r34_8 =>
      gd (0 ≤ i8_1) <|
      gd (i8_1 < ((((a0.length : Nat) : Int).toNat : Nat) : Int)) <|
      gd (okI .i64 ((z6_7.getD i8_1.toNat 0) + r34_8)) <|
      gd (0 ≤ i8_1) <|
      gd (i8_1 < ((((a0.length : Nat) : Int).toNat : Nat) : Int)) <|
      (rMul n a1 [r34_8]).bind fun r48_8 =>
      (rSub n z7_7 r48_8.1).bind fun r49_8 =>
      (rDiv_l2 n a0 a1 i8_1 k_l1 fu_l2) (z6_7.set i8_1.toNat ((z6_7.getD i8_1.toNat 0) + r34_8)) r49_8.1 r49_8.2
    else
      gd (okI .i64 (i8_1 - 1)) <|
      k_l1 z6_7 z7_7 m7_7 (i8_1 - 1)
def rDiv_l1 (n : Nat) (a0 : List Int) (a1 : List Int) : Nat → List Int → List Int → Nat → Int → Option (List Int × Nat × List Int × Nat)
  | 0, _, _, _, _ => none
  | fu_l1 + 1, z6_5, z7_5, m7_5, i8_1 =>
    bif (decide ((0 : Int) ≤ i8_1)) then
      gd (0 ≤ i8_1) <|
      gd (i8_1 < ((a0.length : Nat) : Int)) <|
      gd (rmB (1 + m7_5) 8) <|
      (rtrim n ([(a0.getD i8_1.toNat 0)] ++ z7_5)).bind fun r27_2 =>
      rDiv_l2 n a0 a1 i8_1 (rDiv_l1 n a0 a1 fu_l1) n z6_5 ((([(a0.getD i8_1.toNat 0)] ++ z7_5).drop 0).take r27_2.2) r27_2.2
    else
      (rtrim n z6_5).bind fun r51_1 =>
      some (((z6_5.drop 0).take r51_1.2), r51_1.2, z7_5, m7_5)
def rDiv (n : Nat) (a0 : List Int) (a1 : List Int) : Option (List Int × Nat × List Int × Nat) :=
  gd (0 ≤ ((a0.length : Nat) : Int)) <|
  gd (((a0.length : Nat) : Int) = ((a0.length : Nat) : Int)) <|
  gd (rmB (((a0.length : Nat) : Int).toNat) 8) <|
  gd (okI .i64 (((a0.length : Nat) : Int) - 1)) <|
  rDiv_l1 n a0 a1 n (List.replicate (((a0.length : Nat) : Int).toNat) 0) [] 0 (((a0.length : Nat) : Int) - 1)
def rTo_j1 (n : Nat) (a0 : List Int) (w3_2 : List UInt32) (i4_2 : Int) (k_l1 : (List UInt32) → Int → Option (List UInt32)) (x5_8 : UInt32) : Option (List UInt32) :=
  gd (rmB (w3_2.length + 1) 4) <|
  gd (okI .i64 (i4_2 + 2)) <|
  k_l1 (w3_2 ++ [x5_8]) (i4_2 + 2)
def rTo_l1 (n : Nat) (a0 : List Int) : Nat → List UInt32 → Int → Option (List UInt32)
  | 0, _, _ => none
  | fu_l1 + 1, w3_2, i4_2 =>
    bif (decide (i4_2 < ((a0.length : Nat) : Int))) then
      gd (0 ≤ i4_2) <|
      gd (i4_2 < ((a0.length : Nat) : Int)) <|
      gd (okI .i64 (i4_2 + 1)) <|
      bif (decide ((i4_2 + 1) < ((a0.length : Nat) : Int))) then
        gd (okI .i64 (i4_2 + 1)) <|
        gd (0 ≤ (i4_2 + 1)) <|
        gd ((i4_2 + 1) < ((a0.length : Nat) : Int)) <|
        rTo_j1 n a0 w3_2 i4_2 (rTo_l1 n a0 fu_l1) ((UInt32.ofInt (a0.getD i4_2.toNat 0)) + ((UInt32.ofInt (a0.getD ((i4_2 + 1).toNat) 0)) * (65536 : UInt32)))
      else
        rTo_j1 n a0 w3_2 i4_2 (rTo_l1 n a0 fu_l1) (UInt32.ofInt (a0.getD i4_2.toNat 0))
    else
      some w3_2
def rTo (n : Nat) (a0 : List Int) : Option (List UInt32) :=
  rTo_l1 n a0 n [] 0
def rSame_l1 (n : Nat) (a0 : List UInt32) (r8 : List UInt32) : Nat → Int → Option (Bool)
  | 0, _ => none
  | fu_l1 + 1, i6_2 =>
    bif (decide (i6_2 < ((a0.length : Nat) : Int))) then
      gd (0 ≤ i6_2) <|
      gd (i6_2 < ((a0.length : Nat) : Int)) <|
      gd (0 ≤ i6_2) <|
      gd (i6_2 < ((r8.length : Nat) : Int)) <|
      bif ((a0.getD i6_2.toNat 0) != (r8.getD i6_2.toNat 0)) then
        some false
      else
        gd (okI .i64 (i6_2 + 1)) <|
        (rSame_l1 n a0 r8 fu_l1) (i6_2 + 1)
    else
      some true
def rSame (n : Nat) (a0 : List UInt32) (a1 : List Int) : Option (Bool) :=
  (rTo n a1).bind fun r8 =>
  bif (((a0.length : Nat) : Int) != ((r8.length : Nat) : Int)) then
    some false
  else
    rSame_l1 n a0 r8 n 0
def rRest (n : Nat) (a0 : List Int) (a1 : List Int) : Option (List Int × Nat) :=
  (rDiv n a0 a1).bind fun r10 =>
  some (r10.2.2.1, r10.2.2.2)
def rExp_j1 (n : Nat) (a1 : List Int) (a2 : List Int) (r15 : List Int × Nat) (i9_2 : Int) (k_l1 : (List Int) → Nat → Int → Option (List Int × Nat)) (z7_11 : List Int) (m7_11 : Nat) : Option (List Int × Nat) :=
  gd (okI .i64 (i9_2 - 1)) <|
  k_l1 z7_11 m7_11 (i9_2 - 1)
def rExp_l1 (n : Nat) (a1 : List Int) (a2 : List Int) (r15 : List Int × Nat) : Nat → List Int → Nat → Int → Option (List Int × Nat)
  | 0, _, _, _ => none
  | fu_l1 + 1, z7_9, m7_9, i9_2 =>
    bif (decide ((0 : Int) ≤ i9_2)) then
      (rMul n z7_9 z7_9).bind fun r26_3 =>
      (rRest n r26_3.1 a2).bind fun r28_3 =>
      gd ((16 : Int) ≠ 0) <|
      gd (okI .i64 (Int.tdiv i9_2 16)) <|
      gd (0 ≤ (Int.tdiv i9_2 16)) <|
      gd ((Int.tdiv i9_2 16) < ((a1.length : Nat) : Int)) <|
      gd ((16 : Int) ≠ 0) <|
      gd (0 ≤ (Int.tmod i9_2 16)) <|
      gd ((Int.tmod i9_2 16) ≤ (((IntKind.i64).bits : Nat) : Int)) <|
      bif ((bitI .and .i64 ((a1.getD ((Int.tdiv i9_2 16).toNat) 0) / 2 ^ ((Int.tmod i9_2 16).toNat)) 1) == 1) then
        (rMul n r28_3.1 r15.1).bind fun r41_3 =>
        (rRest n r41_3.1 a2).bind fun r43_3 =>
        rExp_j1 n a1 a2 r15 i9_2 (rExp_l1 n a1 a2 r15 fu_l1) r43_3.1 r43_3.2
      else
        rExp_j1 n a1 a2 r15 i9_2 (rExp_l1 n a1 a2 r15 fu_l1) r28_3.1 r28_3.2
    else
      some (z7_9, m7_9)
def rExp (n : Nat) (a0 : List Int) (a1 : List Int) (a2 : List Int) : Option (List Int × Nat) :=
  (rRest n [1] a2).bind fun r12 =>
  (rRest n a0 a2).bind fun r15 =>
  gd (okI .i64 (16 * ((a1.length : Nat) : Int))) <|
  gd (okI .i64 ((16 * ((a1.length : Nat) : Int)) - 1)) <|
  rExp_l1 n a1 a2 r15 n r12.1 r12.2 ((16 * ((a1.length : Nat) : Int)) - 1)
def rGcd_l1 (n : Nat) : Nat → List Int → Nat → List Int → Nat → Option (List Int × Nat)
  | 0, _, _, _, _ => none
  | fu_l1 + 1, z5_5, m5_2, z6_5, m6_5 =>
    bif (decide ((0 : Int) < ((m6_5 : Nat) : Int))) then
      (rRest n z5_5 z6_5).bind fun r15_6 =>
      (rGcd_l1 n fu_l1) z6_5 m6_5 r15_6.1 r15_6.2
    else
      some (z5_5, m5_2)
def rGcd (n : Nat) (a0 : List Int) (a1 : List Int) : Option (List Int × Nat) :=
  rGcd_l1 n n a0 a0.length a1 a1.length
def rAdd_l1 (n : Nat) (a0 : List Int) (a1 : List Int) : Nat → List Int → Int → Int → Option (List Int × Nat)
  | 0, _, _, _ => none
  | fu_l1 + 1, z5_2, i6_2, i7_2 =>
    bif (decide (i7_2 < ((a0.length : Nat) : Int))) then
      (rdigit n a0 i7_2).bind fun r27_3 =>
      gd (okI .i64 (i6_2 + r27_3)) <|
      (rdigit n a1 i7_2).bind fun r31_3 =>
      gd (okI .i64 ((i6_2 + r27_3) + r31_3)) <|
      gd ((65536 : Int) ≠ 0) <|
      gd (rmB (z5_2.length + 1) 8) <|
      gd ((65536 : Int) ≠ 0) <|
      gd (okI .i64 (Int.tdiv ((i6_2 + r27_3) + r31_3) 65536)) <|
      gd (okI .i64 (i7_2 + 1)) <|
      (rAdd_l1 n a0 a1 fu_l1) (z5_2 ++ [(Int.tmod ((i6_2 + r27_3) + r31_3) 65536)]) (Int.tdiv ((i6_2 + r27_3) + r31_3) 65536) (i7_2 + 1)
    else
      bif (decide (i7_2 < ((a1.length : Nat) : Int))) then
        (rdigit n a0 i7_2).bind fun r27_3 =>
        gd (okI .i64 (i6_2 + r27_3)) <|
        (rdigit n a1 i7_2).bind fun r31_3 =>
        gd (okI .i64 ((i6_2 + r27_3) + r31_3)) <|
        gd ((65536 : Int) ≠ 0) <|
        gd (rmB (z5_2.length + 1) 8) <|
        gd ((65536 : Int) ≠ 0) <|
        gd (okI .i64 (Int.tdiv ((i6_2 + r27_3) + r31_3) 65536)) <|
        gd (okI .i64 (i7_2 + 1)) <|
        (rAdd_l1 n a0 a1 fu_l1) (z5_2 ++ [(Int.tmod ((i6_2 + r27_3) + r31_3) 65536)]) (Int.tdiv ((i6_2 + r27_3) + r31_3) 65536) (i7_2 + 1)
      else
        bif (decide ((0 : Int) < i6_2)) then
          (rdigit n a0 i7_2).bind fun r27_3 =>
          gd (okI .i64 (i6_2 + r27_3)) <|
          (rdigit n a1 i7_2).bind fun r31_3 =>
          gd (okI .i64 ((i6_2 + r27_3) + r31_3)) <|
          gd ((65536 : Int) ≠ 0) <|
          gd (rmB (z5_2.length + 1) 8) <|
          gd ((65536 : Int) ≠ 0) <|
          gd (okI .i64 (Int.tdiv ((i6_2 + r27_3) + r31_3) 65536)) <|
          gd (okI .i64 (i7_2 + 1)) <|
          (rAdd_l1 n a0 a1 fu_l1) (z5_2 ++ [(Int.tmod ((i6_2 + r27_3) + r31_3) 65536)]) (Int.tdiv ((i6_2 + r27_3) + r31_3) 65536) (i7_2 + 1)
        else
          (rtrim n z5_2).bind fun r41_2 =>
          some (((z5_2.drop 0).take r41_2.2), r41_2.2)
def rAdd (n : Nat) (a0 : List Int) (a1 : List Int) : Option (List Int × Nat) :=
  rAdd_l1 n a0 a1 n [] 0 0
def lsame_l1 (n : Nat) (a0 : List UInt32) (a1 : List UInt32) : Nat → Int → Option (Bool)
  | 0, _ => none
  | fu_l1 + 1, i5_2 =>
    bif (decide (i5_2 < ((a0.length : Nat) : Int))) then
      gd (0 ≤ i5_2) <|
      gd (i5_2 < ((a0.length : Nat) : Int)) <|
      gd (0 ≤ i5_2) <|
      gd (i5_2 < ((a1.length : Nat) : Int)) <|
      bif ((a0.getD i5_2.toNat 0) != (a1.getD i5_2.toNat 0)) then
        some false
      else
        gd (okI .i64 (i5_2 + 1)) <|
        (lsame_l1 n a0 a1 fu_l1) (i5_2 + 1)
    else
      some true
def lsame (n : Nat) (a0 : List UInt32) (a1 : List UInt32) : Option (Bool) :=
  bif (((a0.length : Nat) : Int) != ((a1.length : Nat) : Int)) then
    some false
  else
    lsame_l1 n a0 a1 n 0

def llight_R (r : Bool) : S := ⟨[(2, .c (.s (.b r)))], [], []⟩
def llight_ct (n : Nat) (r : Bool) : Ct := fun args H => match args with
  | [x0] => (match aW H x0 with | some l0 => some ([llight n l0 = some r], shA H.length (.c (.s (.b r))), shH H.length []) | none => none)
  | _ => none
theorem llight_ok (n : Nat) (r : Bool) : FnOk Try.prog Tr 12 (llight_ct n r) := by
  refine ⟨fun args H g av objs hF hg ρ w vals hG hp ha => ?_, _, Try.func12, by kernel_rfl, by kernel_rfl⟩
  obtain ⟨x0, rfl⟩ : ∃ x0, args = [x0] := by
    unfold llight_ct at hF; split at hF
    · exact ⟨_, rfl⟩
    · cases hF
  cases e0 : aW H x0 with
  | none => simp only [llight_ct, e0, reduceCtorEq] at hF
  | some l0 =>
  simp only [llight_ct, e0, Option.some.injEq, Prod.mk.injEq] at hF
  obtain ⟨rfl, rfl, rfl⟩ := hF
  obtain ⟨v0, vals, rfl, k0, ha⟩ := F2.inv ha
  obtain rfl := F2.inv0 ha
  have hI : ∀ w', Kp (noB (fun _ => undef)) w w' → Tr w' := fun _ hk => Tr.keep hk.below hG
  have h : llight n l0 = some r := hg
  obtain ⟨p0, s0, o0⟩ := aW_ok hp e0 (k0) 45
  have hR0 := rel0 (gv := (fun _ => undef)) (n := 6) (w := w) (args := [.c (.wh 0)]) (H := [⟨.ro false, 45, 1, l0.length, .w l0⟩]) (gl := []) (hpL (ps := [p0]) (F2.cons o0 F2.nil)) (allRo_ok rfl) (F2.cons s0 F2.nil) GlR.nil (by simp)
  clear ha hp hg k0 e0
  refine calls_W Try.func12 rfl rfl hR0 (Q := fun e s => (e = .ret ∨ e = .normal) ∧ s = llight_R r) ?_ ?_
  · clear hR0
    unfold llight at h
    have hT := tabO_nu
    refine W_seq ?_
    refine W_reg hT ftL_nil [] [] [0] [0] (s' := ⟨[(0, .c (.wh 0))], [], [⟨(.ro false), 45, 1, l0.length, .w l0⟩]⟩) (by kernel_rfl) allP_nil ?_
    refine W_seq ?_
    refine W_reg hT ftL_nil [] [] [2] [] (s' := ⟨[(2, .c (.s (.b (decide (((l0.length : Nat) : Int) ≤ (100 : Int))))))], [], []⟩) (by kernel_rfl) allP_nil ?_
    refine W_co [] [2] [] (s' := (llight_R (decide (((l0.length : Nat) : Int) ≤ (100 : Int))))) (by kernel_rfl) (W_ret ?_)
    exact ⟨.inl rfl, by cases h; rfl⟩
  · rintro e s' ⟨he, rfl⟩
    refine ⟨he, fun a' w' hr => ?_⟩
    exact retS_ok tabO_nu hr (rs := [.tmp 2]) rfl (objs := []) (by kernel_rfl)
def rtrim_l1_E (a0 : List Int) (i3_2 : Int) : S := ⟨[(0, .c (.wh 0)), (3, .c (.s (.k .i64 i3_2)))], [(1000000, .c (.wh 0))], [⟨(.ro false), 3, 1, a0.length, .z a0⟩]⟩
def rtrim_l1_P (n : Nat) (a0 : List Int) (r : List Int × Nat) (fu : Nat) : S → Prop := fun s => ∃ (i3_2 : Int), s = rtrim_l1_E a0 i3_2 ∧ rtrim_l1 n a0 fu i3_2 = some r
theorem rtrim_l1_M {n : Nat} {a0 : List Int} {i3_2 : Int} {r : List Int × Nat} {fu : Nat} (h : rtrim_l1 n a0 fu i3_2 = some r) : rtrim_l1_P n a0 r fu (rtrim_l1_E a0 i3_2) := ⟨i3_2, rfl, h⟩
def rtrim_R (r : List Int × Nat) : S := ⟨[(2, .c (.sl 0 0 r.2))], [(1000000, .c (.wh 0))], [⟨(.ro false), 3, 1, r.1.length, .z r.1⟩]⟩
def rtrim_ct (n : Nat) (r : List Int × Nat) : Ct := fun args H => match args with
  | [x0] => (match aZ H x0 with | some l0 => (match subC 0 r.2 x0 with | some ys => some ([rtrim n l0 = some r], ys, []) | none => none) | none => none)
  | _ => none
theorem rtrim_ok (n : Nat) (r : List Int × Nat) : FnOk Try.prog Tr 36 (rtrim_ct n r) := by
  refine ⟨fun args H g av objs hF hg ρ w vals hG hp ha => ?_, _, Try.func36, by kernel_rfl, by kernel_rfl⟩
  obtain ⟨x0, rfl⟩ : ∃ x0, args = [x0] := by
    unfold rtrim_ct at hF; split at hF
    · exact ⟨_, rfl⟩
    · cases hF
  cases e0 : aZ H x0 with
  | none => simp only [rtrim_ct, e0, reduceCtorEq] at hF
  | some l0 =>
  cases e1 : subC 0 r.2 x0 with
  | none => simp only [rtrim_ct, e0, e1, reduceCtorEq] at hF
  | some ys =>
  simp only [rtrim_ct, e0, e1, Option.some.injEq, Prod.mk.injEq] at hF
  obtain ⟨rfl, rfl, rfl⟩ := hF
  obtain ⟨v0, vals, rfl, k0, ha⟩ := F2.inv ha
  obtain rfl := F2.inv0 ha
  have hI : ∀ w', Kp (noB (fun j => ([v0] : List Value).getD j undef)) w w' → Tr w' := fun _ hk => Tr.keep hk.below hG
  have h : rtrim n l0 = some r := hg
  obtain ⟨p0, s0, o0⟩ := aZ_ok hp e0 (k0) 3
  have kk := k0
  have zz := aZ_sz hp e0
  have hR0 := rel0 (gv := (fun j => ([v0] : List Value).getD j undef)) (n := 21) (w := w) (args := [.c (.wh 0)]) (H := [⟨.ro false, 3, 1, l0.length, .z l0⟩]) (gl := [(1000000, .c (.wh 0))]) (hpL (ps := [p0]) (F2.cons o0 F2.nil)) (allRo_ok rfl) (F2.cons s0 F2.nil) (GlR.cons 0 s0 GlR.nil) (by simp)
  clear ha hp hg k0 e0
  refine calls_W Try.func36 rfl rfl hR0 (Q := fun e s => (e = .ret ∨ e = .normal) ∧ s = rtrim_R r) ?_ ?_
  · clear hR0
    unfold rtrim at h
    have hT := tabO_nu
    refine W_seq ?_
    refine W_reg hT ftL_nil [] [] [0] [0] (s' := ⟨[(0, .c (.wh 0))], [(1000000, .c (.wh 0))], [⟨(.ro false), 3, 1, l0.length, .z l0⟩]⟩) (by kernel_rfl) allP_nil ?_
    refine W_seq ?_
    refine W_reg hT ftL_nil [] [] [0, 3] [0] (s' := ⟨[(0, .c (.wh 0)), (3, .c (.s (.k .i64 ((l0.length : Nat) : Int))))], [(1000000, .c (.wh 0))], [⟨(.ro false), 3, 1, l0.length, .z l0⟩]⟩) (by kernel_rfl) allP_nil ?_
    refine W_seq ?_
    refine W_block ?_
    refine W_co [] [0, 3] [0] (s' := (rtrim_l1_E l0 ((l0.length : Nat) : Int))) (by kernel_rfl) (W_lp ((rtrim_l1_P n l0 r)) n (rtrim_l1_M h) ?_)
    rintro fu_l1 _ ⟨i3_2, rfl, h⟩
    cases fu_l1 with
    | zero => cases h
    | succ fu_l1 =>
      refine ⟨fu_l1, rfl, ?_⟩
      rw [rtrim_l1] at h
      refine W_seq ?_
      refine W_seq ?_
      rcases Bool.eq_false_or_eq_true (decide ((0 : Int) < i3_2)) with g1 | g1
      · replace h := bif_t h g1
        obtain ⟨g2, h⟩ := gd_some h
        obtain ⟨g3, h⟩ := gd_some h
        obtain ⟨g4, h⟩ := gd_some h
        refine W_reg hT ftL_nil [(2, true)] [] [0, 3, 15] [0] (s' := ⟨[(0, .c (.wh 0)), (3, .c (.s (.k .i64 i3_2))), (15, .c (.s (.b ((l0.getD ((i3_2 - 1).toNat) 0) == 0))))], [(1000000, .c (.wh 0))], [⟨(.ro false), 3, 1, l0.length, .z l0⟩]⟩) (by kernel_rfl) (allP_cons.2 ⟨g1, (allP_cons.2 ⟨g2, (allP_cons.2 ⟨g3, (allP_cons.2 ⟨g4, allP_nil⟩)⟩)⟩)⟩) ?_
        refine W_cond (b := ((l0.getD ((i3_2 - 1).toNat) 0) == 0)) (by kernel_rfl) (fun g8 => ?_) (fun g8 => ?_)
        · replace h := bif_t h g8
          refine W_co [] [0, 3] [0] (s' := ⟨[(0, .c (.wh 0)), (3, .c (.s (.k .i64 i3_2)))], [(1000000, .c (.wh 0))], [⟨(.ro false), 3, 1, l0.length, .z l0⟩]⟩) (by kernel_rfl) (W_skip ?_)
          refine W_block ?_
          obtain ⟨g5, h⟩ := gd_some h
          refine W_reg hT ftL_nil [] [] [0, 3] [0] (s' := (rtrim_l1_E l0 (i3_2 - 1))) (by kernel_rfl) (allP_cons.2 ⟨g5, allP_nil⟩) ?_
          exact rtrim_l1_M h
        · replace h := bif_f h g8
          refine W_co [] [0, 3] [0] (s' := ⟨[(0, .c (.wh 0)), (3, .c (.s (.k .i64 i3_2)))], [(1000000, .c (.wh 0))], [⟨(.ro false), 3, 1, l0.length, .z l0⟩]⟩) (by kernel_rfl) (W_exit ?_)
          refine W_seq ?_
          obtain ⟨g6, h⟩ := gd_some h
          obtain ⟨g7, h⟩ := gd_some h
          refine W_reg hT ftL_nil [] [] [2] [0] (s' := ⟨[(2, .c (.sl 0 0 i3_2.toNat))], [(1000000, .c (.wh 0))], [⟨(.ro false), 3, 1, l0.length, .z l0⟩]⟩) (by kernel_rfl) (allP_cons.2 ⟨g6, (allP_cons.2 ⟨g7, allP_nil⟩)⟩) ?_
          refine W_co [] [2] [0] (s' := (rtrim_R (l0, i3_2.toNat))) (by kernel_rfl) (W_ret ?_)
          exact ⟨.inl rfl, by cases h; rfl⟩
      · replace h := bif_f h g1
        refine W_reg hT ftL_nil [(2, false)] [] [0, 3, 15] [0] (s' := ⟨[(0, .c (.wh 0)), (3, .c (.s (.k .i64 i3_2))), (15, .c (.s (.b false)))], [(1000000, .c (.wh 0))], [⟨(.ro false), 3, 1, l0.length, .z l0⟩]⟩) (by kernel_rfl) (allP_cons.2 ⟨g1, allP_nil⟩) ?_
        refine W_cond (b := false) (by kernel_rfl) (fun hb => by cases hb) (fun _ => ?_)
        refine W_co [] [0, 3] [0] (s' := ⟨[(0, .c (.wh 0)), (3, .c (.s (.k .i64 i3_2)))], [(1000000, .c (.wh 0))], [⟨(.ro false), 3, 1, l0.length, .z l0⟩]⟩) (by kernel_rfl) (W_exit ?_)
        refine W_seq ?_
        obtain ⟨g9, h⟩ := gd_some h
        obtain ⟨g10, h⟩ := gd_some h
        refine W_reg hT ftL_nil [] [] [2] [0] (s' := ⟨[(2, .c (.sl 0 0 i3_2.toNat))], [(1000000, .c (.wh 0))], [⟨(.ro false), 3, 1, l0.length, .z l0⟩]⟩) (by kernel_rfl) (allP_cons.2 ⟨g9, (allP_cons.2 ⟨g10, allP_nil⟩)⟩) ?_
        refine W_co [] [2] [0] (s' := (rtrim_R (l0, i3_2.toNat))) (by kernel_rfl) (W_ret ?_)
        exact ⟨.inl rfl, by cases h; rfl⟩
  · rintro e s' ⟨he, rfl⟩
    refine ⟨he, fun a' w' hr => ?_⟩
    exact retB_ok (q := 0) hr rfl rfl rfl (by kernel_rfl) kk zz e1
def rOf_l1_E (a0 : List UInt32) (z3_2 : List Int) (i4_2 : Int) : S := ⟨[(0, .c (.wh 0)), (3, .c (.wh 1)), (4, .c (.s (.k .i64 i4_2)))], [], [⟨(.ro false), 45, 1, a0.length, .w a0⟩, ⟨.row, 3, 1, z3_2.length, .z z3_2⟩]⟩
def rOf_l1_P (n : Nat) (a0 : List UInt32) (r : List Int × Nat) (fu : Nat) : S → Prop := fun s => ∃ (z3_2 : List Int), ∃ (i4_2 : Int), s = rOf_l1_E a0 z3_2 i4_2 ∧ rOf_l1 n a0 fu z3_2 i4_2 = some r
theorem rOf_l1_M {n : Nat} {a0 : List UInt32} {z3_2 : List Int} {i4_2 : Int} {r : List Int × Nat} {fu : Nat} (h : rOf_l1 n a0 fu z3_2 i4_2 = some r) : rOf_l1_P n a0 r fu (rOf_l1_E a0 z3_2 i4_2) := ⟨z3_2, i4_2, rfl, h⟩
def rOf_R (r : List Int × Nat) : S := ⟨[(2, .c (.wh 0))], [], [⟨(.ro true), 3, 1, r.2, .z r.1⟩]⟩
def rOf_ct (n : Nat) (r : List Int × Nat) : Ct := fun args H => match args with
  | [x0] => (match aW H x0 with | some l0 => some ([rOf n l0 = some r], shA H.length (.c (.wh 0)), shH H.length [⟨(.ro true), 3, 1, r.2, .z r.1⟩]) | none => none)
  | _ => none
theorem rOf_ok (n : Nat) (r : List Int × Nat) : FnOk Try.prog Tr 15 (rOf_ct n r) := by
  refine ⟨fun args H g av objs hF hg ρ w vals hG hp ha => ?_, _, Try.func15, by kernel_rfl, by kernel_rfl⟩
  obtain ⟨x0, rfl⟩ : ∃ x0, args = [x0] := by
    unfold rOf_ct at hF; split at hF
    · exact ⟨_, rfl⟩
    · cases hF
  cases e0 : aW H x0 with
  | none => simp only [rOf_ct, e0, reduceCtorEq] at hF
  | some l0 =>
  simp only [rOf_ct, e0, Option.some.injEq, Prod.mk.injEq] at hF
  obtain ⟨rfl, rfl, rfl⟩ := hF
  obtain ⟨v0, vals, rfl, k0, ha⟩ := F2.inv ha
  obtain rfl := F2.inv0 ha
  have hI : ∀ w', Kp (noB (fun _ => undef)) w w' → Tr w' := fun _ hk => Tr.keep hk.below hG
  have h : rOf n l0 = some r := hg
  obtain ⟨p0, s0, o0⟩ := aW_ok hp e0 (k0) 45
  have hR0 := rel0 (gv := (fun _ => undef)) (n := 28) (w := w) (args := [.c (.wh 0)]) (H := [⟨.ro false, 45, 1, l0.length, .w l0⟩]) (gl := []) (hpL (ps := [p0]) (F2.cons o0 F2.nil)) (allRo_ok rfl) (F2.cons s0 F2.nil) GlR.nil (by simp)
  clear ha hp hg k0 e0
  refine calls_W Try.func15 rfl rfl hR0 (Q := fun e s => (e = .ret ∨ e = .normal) ∧ s = rOf_R r) ?_ ?_
  · clear hR0
    unfold rOf at h
    have hT := tabO_nu
    refine W_seq ?_
    refine W_reg hT ftL_nil [] [] [0] [0] (s' := ⟨[(0, .c (.wh 0))], [], [⟨(.ro false), 45, 1, l0.length, .w l0⟩]⟩) (by kernel_rfl) allP_nil ?_
    refine W_seq ?_
    refine W_reg hT ftL_nil [] [] [0, 3] [0] (s' := ⟨[(0, .c (.wh 0)), (3, .c (.nils))], [], [⟨(.ro false), 45, 1, l0.length, .w l0⟩]⟩) (by kernel_rfl) allP_nil ?_
    refine W_seq ?_
    refine W_seq ?_
    refine W_reg hT ftL_nil [] [] [0, 3, 4] [0] (s' := ⟨[(0, .c (.wh 0)), (3, .c (.nils)), (4, .c (.s (.k .i64 0)))], [], [⟨(.ro false), 45, 1, l0.length, .w l0⟩]⟩) (by kernel_rfl) allP_nil ?_
    refine W_block ?_
    refine W_co [.nil 3 3 1 (.z [])] [0, 3, 4] [0, 1] (s' := (rOf_l1_E l0 [] 0)) (by kernel_rfl) (W_lp ((rOf_l1_P n l0 r)) n (rOf_l1_M h) ?_)
    rintro fu_l1 _ ⟨z3_2, i4_2, rfl, h⟩
    cases fu_l1 with
    | zero => cases h
    | succ fu_l1 =>
      refine ⟨fu_l1, rfl, ?_⟩
      rw [rOf_l1] at h
      refine W_seq ?_
      refine W_seq ?_
      refine W_reg hT ftL_nil [] [] [0, 3, 4, 8] [0, 1] (s' := ⟨[(0, .c (.wh 0)), (3, .c (.wh 1)), (4, .c (.s (.k .i64 i4_2))), (8, .c (.s (.b (decide (i4_2 < ((l0.length : Nat) : Int))))))], [], [⟨(.ro false), 45, 1, l0.length, .w l0⟩, ⟨.row, 3, 1, z3_2.length, .z z3_2⟩]⟩) (by kernel_rfl) allP_nil ?_
      refine W_cond (b := (decide (i4_2 < ((l0.length : Nat) : Int)))) (by kernel_rfl) (fun g10 => ?_) (fun g10 => ?_)
      · replace h := bif_t h g10
        refine W_co [] [0, 3, 4] [0, 1] (s' := ⟨[(0, .c (.wh 0)), (3, .c (.wh 1)), (4, .c (.s (.k .i64 i4_2)))], [], [⟨(.ro false), 45, 1, l0.length, .w l0⟩, ⟨.row, 3, 1, z3_2.length, .z z3_2⟩]⟩) (by kernel_rfl) (W_skip ?_)
        refine W_seq ?_
        refine W_block ?_
        obtain ⟨g1, h⟩ := gd_some h
        obtain ⟨g2, h⟩ := gd_some h
        obtain ⟨g3, h⟩ := gd_some h
        obtain ⟨g4, h⟩ := gd_some h
        obtain ⟨g5, h⟩ := gd_some h
        obtain ⟨g6, h⟩ := gd_some h
        obtain ⟨g7, h⟩ := gd_some h
        refine W_regD hT ftL_nil (by kernel_rfl) 14 [] [(0, false), (3, false), (4, false), (11, false), (24, false)] [] [0, 3, 4] [0, 3] (s' := ⟨[(0, .c (.wh 0)), (3, .c (.wh 1)), (4, .c (.s (.k .i64 i4_2)))], [], [⟨(.ro false), 45, 1, l0.length, .w l0⟩, ⟨.row, 3, 1, (z3_2 ++ [((((l0.getD i4_2.toNat 0) % (65536 : UInt32)).toNat : Nat) : Int), ((((l0.getD i4_2.toNat 0) / (65536 : UInt32)).toNat : Nat) : Int)]).length, .z (z3_2 ++ [((((l0.getD i4_2.toNat 0) % (65536 : UInt32)).toNat : Nat) : Int), ((((l0.getD i4_2.toNat 0) / (65536 : UInt32)).toNat : Nat) : Int)])⟩]⟩) (by kernel_rfl) (by kernel_rfl) (allP_cons.2 ⟨g1, (allP_cons.2 ⟨g2, (allP_cons.2 ⟨g3, (allP_cons.2 ⟨g4, (allP_cons.2 ⟨g5, (allP_cons.2 ⟨g6, (allP_cons.2 ⟨g7, allP_nil⟩)⟩)⟩)⟩)⟩)⟩)⟩) ?_
        obtain ⟨g8, h⟩ := gd_some h
        refine W_reg hT ftL_nil [] [] [0, 3, 4] [0, 1] (s' := (rOf_l1_E l0 (z3_2 ++ [((((l0.getD i4_2.toNat 0) % (65536 : UInt32)).toNat : Nat) : Int), ((((l0.getD i4_2.toNat 0) / (65536 : UInt32)).toNat : Nat) : Int)]) (i4_2 + 1))) (by kernel_rfl) (allP_cons.2 ⟨g8, allP_nil⟩) ?_
        exact rOf_l1_M h
      · replace h := bif_f h g10
        refine W_co [] [3] [1] (s' := ⟨[(3, .c (.wh 0))], [], [⟨.row, 3, 1, z3_2.length, .z z3_2⟩]⟩) (by kernel_rfl) (W_exit ?_)
        refine W_seq ?_
        obtain ⟨r27_2, g9, h⟩ := bind_some' h
        refine W_reg hT (ftL_cons (k := 1) (f := 36) (F := (rtrim_ct n r27_2)) (rtrim_ok n r27_2) (fun _ _ => True.intro) ftL_nil) [] [] [2] [0] (s' := ⟨[(2, .c (.sl 0 0 r27_2.2))], [], [⟨.row, 3, 1, z3_2.length, .z z3_2⟩]⟩) (by kernel_rfl) (allP_cons.2 ⟨g9, allP_nil⟩) ?_
        refine W_co [.vw 2 true] [2] [1] (s' := (rOf_R (((z3_2.drop 0).take r27_2.2), r27_2.2))) (by kernel_rfl) (W_ret ?_)
        exact ⟨.inl rfl, by cases h; rfl⟩
  · rintro e s' ⟨he, rfl⟩
    refine ⟨he, fun a' w' hr => ?_⟩
    exact retS_ok tabO_nu hr (rs := [.tmp 2]) rfl (objs := [0]) (by kernel_rfl)
def rMay_R (r : Bool) : S := ⟨[(2, .c (.s (.b r)))], [], []⟩
def rMay_ct (n : Nat) (r : Bool) : Ct := fun args H => match args with
  | [x0] => (match aW H x0 with | some l0 => some ([rMay n l0 = some r], shA H.length (.c (.s (.b r))), shH H.length []) | none => none)
  | _ => none
theorem rMay_ok (n : Nat) (r : Bool) : FnOk Try.prog Tr 14 (rMay_ct n r) := by
  refine ⟨fun args H g av objs hF hg ρ w vals hG hp ha => ?_, _, Try.func14, by kernel_rfl, by kernel_rfl⟩
  obtain ⟨x0, rfl⟩ : ∃ x0, args = [x0] := by
    unfold rMay_ct at hF; split at hF
    · exact ⟨_, rfl⟩
    · cases hF
  cases e0 : aW H x0 with
  | none => simp only [rMay_ct, e0, reduceCtorEq] at hF
  | some l0 =>
  simp only [rMay_ct, e0, Option.some.injEq, Prod.mk.injEq] at hF
  obtain ⟨rfl, rfl, rfl⟩ := hF
  obtain ⟨v0, vals, rfl, k0, ha⟩ := F2.inv ha
  obtain rfl := F2.inv0 ha
  have hI : ∀ w', Kp (noB (fun _ => undef)) w w' → Tr w' := fun _ hk => Tr.keep hk.below hG
  have h : rMay n l0 = some r := hg
  obtain ⟨p0, s0, o0⟩ := aW_ok hp e0 (k0) 45
  have hR0 := rel0 (gv := (fun _ => undef)) (n := 7) (w := w) (args := [.c (.wh 0)]) (H := [⟨.ro false, 45, 1, l0.length, .w l0⟩]) (gl := []) (hpL (ps := [p0]) (F2.cons o0 F2.nil)) (allRo_ok rfl) (F2.cons s0 F2.nil) GlR.nil (by simp)
  clear ha hp hg k0 e0
  refine calls_W Try.func14 rfl rfl hR0 (Q := fun e s => (e = .ret ∨ e = .normal) ∧ s = rMay_R r) ?_ ?_
  · clear hR0
    unfold rMay at h
    have hT := tabO_nu
    refine W_seq ?_
    refine W_reg hT ftL_nil [] [] [0] [0] (s' := ⟨[(0, .c (.wh 0))], [], [⟨(.ro false), 45, 1, l0.length, .w l0⟩]⟩) (by kernel_rfl) allP_nil ?_
    refine W_seq ?_
    obtain ⟨r4, g1, h⟩ := bind_some' h
    refine W_reg hT (ftL_cons (k := 1) (f := 15) (F := (rOf_ct n r4)) (rOf_ok n r4) (fun _ _ => True.intro) ftL_nil) [] [] [2] [] (s' := ⟨[(2, .c (.s (.b (decide (((r4.2 : Nat) : Int) ≤ (128 : Int))))))], [], []⟩) (by kernel_rfl) (allP_cons.2 ⟨g1, allP_nil⟩) ?_
    refine W_co [] [2] [] (s' := (rMay_R (decide (((r4.2 : Nat) : Int) ≤ (128 : Int))))) (by kernel_rfl) (W_ret ?_)
    exact ⟨.inl rfl, by cases h; rfl⟩
  · rintro e s' ⟨he, rfl⟩
    refine ⟨he, fun a' w' hr => ?_⟩
    exact retS_ok tabO_nu hr (rs := [.tmp 2]) rfl (objs := []) (by kernel_rfl)
def rCmp_l1_E (a0 : List Int) (a1 : List Int) (i5_2 : Int) : S := ⟨[(0, .c (.wh 0)), (1, .c (.wh 1)), (5, .c (.s (.k .i64 i5_2)))], [], [⟨(.ro false), 3, 1, a0.length, .z a0⟩, ⟨(.ro false), 3, 1, a1.length, .z a1⟩]⟩
def rCmp_l1_P (n : Nat) (a0 : List Int) (a1 : List Int) (r : Int) (fu : Nat) : S → Prop := fun s => ∃ (i5_2 : Int), s = rCmp_l1_E a0 a1 i5_2 ∧ rCmp_l1 n a0 a1 fu i5_2 = some r
theorem rCmp_l1_M {n : Nat} {a0 : List Int} {a1 : List Int} {i5_2 : Int} {r : Int} {fu : Nat} (h : rCmp_l1 n a0 a1 fu i5_2 = some r) : rCmp_l1_P n a0 a1 r fu (rCmp_l1_E a0 a1 i5_2) := ⟨i5_2, rfl, h⟩
def rCmp_R (r : Int) : S := ⟨[(4, .c (.s (.k .i64 r)))], [], []⟩
def rCmp_ct (n : Nat) (r : Int) : Ct := fun args H => match args with
  | [x0, x1] => (match aZ H x0 with | some l0 => (match aZ H x1 with | some l1 => some ([rCmp n l0 l1 = some r], shA H.length (.c (.s (.k .i64 r))), shH H.length []) | none => none) | none => none)
  | _ => none
theorem rCmp_ok (n : Nat) (r : Int) : FnOk Try.prog Tr 21 (rCmp_ct n r) := by
  refine ⟨fun args H g av objs hF hg ρ w vals hG hp ha => ?_, _, Try.func21, by kernel_rfl, by kernel_rfl⟩
  obtain ⟨x0, x1, rfl⟩ : ∃ x0 x1, args = [x0, x1] := by
    unfold rCmp_ct at hF; split at hF
    · exact ⟨_, _, rfl⟩
    · cases hF
  cases e0 : aZ H x0 with
  | none => simp only [rCmp_ct, e0, reduceCtorEq] at hF
  | some l0 =>
  cases e1 : aZ H x1 with
  | none => simp only [rCmp_ct, e0, e1, reduceCtorEq] at hF
  | some l1 =>
  simp only [rCmp_ct, e0, e1, Option.some.injEq, Prod.mk.injEq] at hF
  obtain ⟨rfl, rfl, rfl⟩ := hF
  obtain ⟨v0, vals, rfl, k0, ha⟩ := F2.inv ha
  obtain ⟨v1, vals, rfl, k1, ha⟩ := F2.inv ha
  obtain rfl := F2.inv0 ha
  have hI : ∀ w', Kp (noB (fun _ => undef)) w w' → Tr w' := fun _ hk => Tr.keep hk.below hG
  have h : rCmp n l0 l1 = some r := hg
  obtain ⟨p0, s0, o0⟩ := aZ_ok hp e0 (k0) 3
  obtain ⟨p1, s1, o1⟩ := aZ_ok hp e1 (k1) 3
  have hR0 := rel0 (gv := (fun _ => undef)) (n := 41) (w := w) (args := [.c (.wh 0), .c (.wh 1)]) (H := [⟨.ro false, 3, 1, l0.length, .z l0⟩, ⟨.ro false, 3, 1, l1.length, .z l1⟩]) (gl := []) (hpL (ps := [p0, p1]) (F2.cons o0 (F2.cons o1 F2.nil))) (allRo_ok rfl) (F2.cons s0 (F2.cons s1 F2.nil)) GlR.nil (by simp)
  clear ha hp hg k0 k1 e0 e1
  refine calls_W Try.func21 rfl rfl hR0 (Q := fun e s => (e = .ret ∨ e = .normal) ∧ s = rCmp_R r) ?_ ?_
  · clear hR0
    unfold rCmp at h
    have hT := tabO_nu
    refine W_seq ?_
    refine W_reg hT ftL_nil [] [] [0, 1] [0, 1] (s' := ⟨[(0, .c (.wh 0)), (1, .c (.wh 1))], [], [⟨(.ro false), 3, 1, l0.length, .z l0⟩, ⟨(.ro false), 3, 1, l1.length, .z l1⟩]⟩) (by kernel_rfl) allP_nil ?_
    refine W_seq ?_
    refine W_seq ?_
    refine W_reg hT ftL_nil [] [] [0, 1, 10] [0, 1] (s' := ⟨[(0, .c (.wh 0)), (1, .c (.wh 1)), (10, .c (.s (.b (((l0.length : Nat) : Int) != ((l1.length : Nat) : Int)))))], [], [⟨(.ro false), 3, 1, l0.length, .z l0⟩, ⟨(.ro false), 3, 1, l1.length, .z l1⟩]⟩) (by kernel_rfl) allP_nil ?_
    refine W_cond (b := (((l0.length : Nat) : Int) != ((l1.length : Nat) : Int))) (by kernel_rfl) (fun g15 => ?_) (fun g15 => ?_)
    · replace h := bif_t h g15
      refine W_seq ?_
      refine W_seq ?_
      refine W_reg hT ftL_nil [] [] [15] [] (s' := ⟨[(15, .c (.s (.b (decide (((l0.length : Nat) : Int) < ((l1.length : Nat) : Int))))))], [], []⟩) (by kernel_rfl) allP_nil ?_
      refine W_cond (b := (decide (((l0.length : Nat) : Int) < ((l1.length : Nat) : Int)))) (by kernel_rfl) (fun g1 => ?_) (fun g1 => ?_)
      · replace h := bif_t h g1
        refine W_seq ?_
        refine W_reg hT ftL_nil [] [] [4] [] (s' := ⟨[(4, .c (.s (.k .i64 (-1))))], [], []⟩) (by kernel_rfl) allP_nil ?_
        refine W_co [] [4] [] (s' := (rCmp_R (-1))) (by kernel_rfl) (W_ret ?_)
        exact ⟨.inl rfl, by cases h; rfl⟩
      · replace h := bif_f h g1
        refine W_co [] [] [] (s' := ⟨[], [], []⟩) (by kernel_rfl) (W_skip ?_)
        refine W_seq ?_
        refine W_reg hT ftL_nil [] [] [4] [] (s' := ⟨[(4, .c (.s (.k .i64 1)))], [], []⟩) (by kernel_rfl) allP_nil ?_
        refine W_co [] [4] [] (s' := (rCmp_R 1)) (by kernel_rfl) (W_ret ?_)
        exact ⟨.inl rfl, by cases h; rfl⟩
    · replace h := bif_f h g15
      refine W_co [] [0, 1] [0, 1] (s' := ⟨[(0, .c (.wh 0)), (1, .c (.wh 1))], [], [⟨(.ro false), 3, 1, l0.length, .z l0⟩, ⟨(.ro false), 3, 1, l1.length, .z l1⟩]⟩) (by kernel_rfl) (W_skip ?_)
      refine W_seq ?_
      refine W_seq ?_
      obtain ⟨g2, h⟩ := gd_some h
      refine W_reg hT ftL_nil [] [] [0, 1, 5] [0, 1] (s' := ⟨[(0, .c (.wh 0)), (1, .c (.wh 1)), (5, .c (.s (.k .i64 (((l0.length : Nat) : Int) - 1))))], [], [⟨(.ro false), 3, 1, l0.length, .z l0⟩, ⟨(.ro false), 3, 1, l1.length, .z l1⟩]⟩) (by kernel_rfl) (allP_cons.2 ⟨g2, allP_nil⟩) ?_
      refine W_block ?_
      refine W_co [] [0, 1, 5] [0, 1] (s' := (rCmp_l1_E l0 l1 (((l0.length : Nat) : Int) - 1))) (by kernel_rfl) (W_lp ((rCmp_l1_P n l0 l1 r)) n (rCmp_l1_M h) ?_)
      rintro fu_l1 _ ⟨i5_2, rfl, h⟩
      cases fu_l1 with
      | zero => cases h
      | succ fu_l1 =>
        refine ⟨fu_l1, rfl, ?_⟩
        rw [rCmp_l1] at h
        refine W_seq ?_
        refine W_seq ?_
        refine W_reg hT ftL_nil [] [] [0, 1, 5, 20] [0, 1] (s' := ⟨[(0, .c (.wh 0)), (1, .c (.wh 1)), (5, .c (.s (.k .i64 i5_2))), (20, .c (.s (.b (decide ((0 : Int) ≤ i5_2)))))], [], [⟨(.ro false), 3, 1, l0.length, .z l0⟩, ⟨(.ro false), 3, 1, l1.length, .z l1⟩]⟩) (by kernel_rfl) allP_nil ?_
        refine W_cond (b := (decide ((0 : Int) ≤ i5_2))) (by kernel_rfl) (fun g14 => ?_) (fun g14 => ?_)
        · replace h := bif_t h g14
          refine W_co [] [0, 1, 5] [0, 1] (s' := ⟨[(0, .c (.wh 0)), (1, .c (.wh 1)), (5, .c (.s (.k .i64 i5_2)))], [], [⟨(.ro false), 3, 1, l0.length, .z l0⟩, ⟨(.ro false), 3, 1, l1.length, .z l1⟩]⟩) (by kernel_rfl) (W_skip ?_)
          refine W_seq ?_
          refine W_block ?_
          refine W_seq ?_
          obtain ⟨g3, h⟩ := gd_some h
          obtain ⟨g4, h⟩ := gd_some h
          obtain ⟨g5, h⟩ := gd_some h
          obtain ⟨g6, h⟩ := gd_some h
          refine W_regD hT ftL_nil (by kernel_rfl) 8 [] [(0, false), (1, false), (5, false), (26, false), (30, false)] [] [0, 1, 5, 31] [0, 1] (s' := ⟨[(0, .c (.wh 0)), (1, .c (.wh 1)), (5, .c (.s (.k .i64 i5_2))), (31, .c (.s (.b ((l0.getD i5_2.toNat 0) != (l1.getD i5_2.toNat 0)))))], [], [⟨(.ro false), 3, 1, l0.length, .z l0⟩, ⟨(.ro false), 3, 1, l1.length, .z l1⟩]⟩) (by kernel_rfl) (by kernel_rfl) (allP_cons.2 ⟨g3, (allP_cons.2 ⟨g4, (allP_cons.2 ⟨g5, (allP_cons.2 ⟨g6, allP_nil⟩)⟩)⟩)⟩) ?_
          refine W_cond (b := ((l0.getD i5_2.toNat 0) != (l1.getD i5_2.toNat 0))) (by kernel_rfl) (fun g13 => ?_) (fun g13 => ?_)
          · replace h := bif_t h g13
            refine W_seq ?_
            refine W_seq ?_
            obtain ⟨g7, h⟩ := gd_some h
            obtain ⟨g8, h⟩ := gd_some h
            obtain ⟨g9, h⟩ := gd_some h
            obtain ⟨g10, h⟩ := gd_some h
            refine W_regD hT ftL_nil (by kernel_rfl) 8 [] [(35, false), (39, false)] [] [40] [] (s' := ⟨[(40, .c (.s (.b (decide ((l0.getD i5_2.toNat 0) < (l1.getD i5_2.toNat 0))))))], [], []⟩) (by kernel_rfl) (by kernel_rfl) (allP_cons.2 ⟨g7, (allP_cons.2 ⟨g8, (allP_cons.2 ⟨g9, (allP_cons.2 ⟨g10, allP_nil⟩)⟩)⟩)⟩) ?_
            refine W_cond (b := (decide ((l0.getD i5_2.toNat 0) < (l1.getD i5_2.toNat 0)))) (by kernel_rfl) (fun g11 => ?_) (fun g11 => ?_)
            · replace h := bif_t h g11
              refine W_seq ?_
              refine W_reg hT ftL_nil [] [] [4] [] (s' := ⟨[(4, .c (.s (.k .i64 (-1))))], [], []⟩) (by kernel_rfl) allP_nil ?_
              refine W_co [] [4] [] (s' := (rCmp_R (-1))) (by kernel_rfl) (W_ret ?_)
              exact ⟨.inl rfl, by cases h; rfl⟩
            · replace h := bif_f h g11
              refine W_co [] [] [] (s' := ⟨[], [], []⟩) (by kernel_rfl) (W_skip ?_)
              refine W_seq ?_
              refine W_reg hT ftL_nil [] [] [4] [] (s' := ⟨[(4, .c (.s (.k .i64 1)))], [], []⟩) (by kernel_rfl) allP_nil ?_
              refine W_co [] [4] [] (s' := (rCmp_R 1)) (by kernel_rfl) (W_ret ?_)
              exact ⟨.inl rfl, by cases h; rfl⟩
          · replace h := bif_f h g13
            refine W_co [] [0, 1, 5] [0, 1] (s' := ⟨[(0, .c (.wh 0)), (1, .c (.wh 1)), (5, .c (.s (.k .i64 i5_2)))], [], [⟨(.ro false), 3, 1, l0.length, .z l0⟩, ⟨(.ro false), 3, 1, l1.length, .z l1⟩]⟩) (by kernel_rfl) (W_skip ?_)
            obtain ⟨g12, h⟩ := gd_some h
            refine W_reg hT ftL_nil [] [] [0, 1, 5] [0, 1] (s' := (rCmp_l1_E l0 l1 (i5_2 - 1))) (by kernel_rfl) (allP_cons.2 ⟨g12, allP_nil⟩) ?_
            exact rCmp_l1_M h
        · replace h := bif_f h g14
          refine W_co [] [] [] (s' := ⟨[], [], []⟩) (by kernel_rfl) (W_exit ?_)
          refine W_seq ?_
          refine W_reg hT ftL_nil [] [] [4] [] (s' := ⟨[(4, .c (.s (.k .i64 0)))], [], []⟩) (by kernel_rfl) allP_nil ?_
          refine W_co [] [4] [] (s' := (rCmp_R 0)) (by kernel_rfl) (W_ret ?_)
          exact ⟨.inl rfl, by cases h; rfl⟩
  · rintro e s' ⟨he, rfl⟩
    refine ⟨he, fun a' w' hr => ?_⟩
    exact retS_ok tabO_nu hr (rs := [.tmp 4]) rfl (objs := []) (by kernel_rfl)
def rdigit_R (r : Int) : S := ⟨[(4, .c (.s (.k .i64 r)))], [], []⟩
def rdigit_ct (n : Nat) (r : Int) : Ct := fun args H => match args with
  | [x0, x1] => (match aZ H x0 with | some l0 => (match aI x1 with | some l1 => some ([rdigit n l0 l1 = some r], shA H.length (.c (.s (.k .i64 r))), shH H.length []) | none => none) | none => none)
  | _ => none
theorem rdigit_ok (n : Nat) (r : Int) : FnOk Try.prog Tr 46 (rdigit_ct n r) := by
  refine ⟨fun args H g av objs hF hg ρ w vals hG hp ha => ?_, _, Try.func46, by kernel_rfl, by kernel_rfl⟩
  obtain ⟨x0, x1, rfl⟩ : ∃ x0 x1, args = [x0, x1] := by
    unfold rdigit_ct at hF; split at hF
    · exact ⟨_, _, rfl⟩
    · cases hF
  cases e0 : aZ H x0 with
  | none => simp only [rdigit_ct, e0, reduceCtorEq] at hF
  | some l0 =>
  cases e1 : aI x1 with
  | none => simp only [rdigit_ct, e0, e1, reduceCtorEq] at hF
  | some l1 =>
  simp only [rdigit_ct, e0, e1, Option.some.injEq, Prod.mk.injEq] at hF
  obtain ⟨rfl, rfl, rfl⟩ := hF
  obtain ⟨v0, vals, rfl, k0, ha⟩ := F2.inv ha
  obtain ⟨v1, vals, rfl, k1, ha⟩ := F2.inv ha
  obtain rfl := F2.inv0 ha
  have hI : ∀ w', Kp (noB (fun _ => undef)) w w' → Tr w' := fun _ hk => Tr.keep hk.below hG
  have h : rdigit n l0 l1 = some r := hg
  obtain ⟨p0, s0, o0⟩ := aZ_ok hp e0 (k0) 3
  have s1 := aI_ok e1 (k1)
  have hR0 := rel0 (gv := (fun _ => undef)) (n := 13) (w := w) (args := [.c (.wh 0), .c (.s (.k .i64 l1))]) (H := [⟨.ro false, 3, 1, l0.length, .z l0⟩]) (gl := []) (hpL (ps := [p0]) (F2.cons o0 F2.nil)) (allRo_ok rfl) (F2.cons s0 (F2.cons s1 F2.nil)) GlR.nil (by simp)
  clear ha hp hg k0 k1 e0 e1
  refine calls_W Try.func46 rfl rfl hR0 (Q := fun e s => (e = .ret ∨ e = .normal) ∧ s = rdigit_R r) ?_ ?_
  · clear hR0
    unfold rdigit at h
    have hT := tabO_nu
    refine W_seq ?_
    refine W_reg hT ftL_nil [] [] [0, 1] [0] (s' := ⟨[(0, .c (.wh 0)), (1, .c (.s (.k .i64 l1)))], [], [⟨(.ro false), 3, 1, l0.length, .z l0⟩]⟩) (by kernel_rfl) allP_nil ?_
    refine W_seq ?_
    refine W_seq ?_
    refine W_reg hT ftL_nil [] [] [0, 1, 8] [0] (s' := ⟨[(0, .c (.wh 0)), (1, .c (.s (.k .i64 l1))), (8, .c (.s (.b (decide (l1 < ((l0.length : Nat) : Int))))))], [], [⟨(.ro false), 3, 1, l0.length, .z l0⟩]⟩) (by kernel_rfl) allP_nil ?_
    refine W_cond (b := (decide (l1 < ((l0.length : Nat) : Int)))) (by kernel_rfl) (fun g3 => ?_) (fun g3 => ?_)
    · replace h := bif_t h g3
      refine W_seq ?_
      obtain ⟨g1, h⟩ := gd_some h
      obtain ⟨g2, h⟩ := gd_some h
      refine W_reg hT ftL_nil [] [] [4] [] (s' := ⟨[(4, .c (.s (.k .i64 (l0.getD l1.toNat 0))))], [], []⟩) (by kernel_rfl) (allP_cons.2 ⟨g1, (allP_cons.2 ⟨g2, allP_nil⟩)⟩) ?_
      refine W_co [] [4] [] (s' := (rdigit_R (l0.getD l1.toNat 0))) (by kernel_rfl) (W_ret ?_)
      exact ⟨.inl rfl, by cases h; rfl⟩
    · replace h := bif_f h g3
      refine W_co [] [] [] (s' := ⟨[], [], []⟩) (by kernel_rfl) (W_skip ?_)
      refine W_seq ?_
      refine W_reg hT ftL_nil [] [] [4] [] (s' := ⟨[(4, .c (.s (.k .i64 0)))], [], []⟩) (by kernel_rfl) allP_nil ?_
      refine W_co [] [4] [] (s' := (rdigit_R 0)) (by kernel_rfl) (W_ret ?_)
      exact ⟨.inl rfl, by cases h; rfl⟩
  · rintro e s' ⟨he, rfl⟩
    refine ⟨he, fun a' w' hr => ?_⟩
    exact retS_ok tabO_nu hr (rs := [.tmp 4]) rfl (objs := []) (by kernel_rfl)
def rfit_j1_E (i6_2 : Int) : S := ⟨[(6, .c (.s (.k .i64 i6_2)))], [], []⟩
def rfit_j1_P (n : Nat) (r : Int) : S → Prop := fun s => ∃ (i6_2 : Int), s = rfit_j1_E i6_2 ∧ rfit_j1 n i6_2 = some r
theorem rfit_j1_M {n : Nat} {i6_2 : Int} {r : Int} (h : rfit_j1 n i6_2 = some r) : rfit_j1_P n r (rfit_j1_E i6_2) := ⟨i6_2, rfl, h⟩
def rfit_R (r : Int) : S := ⟨[(4, .c (.s (.k .i64 r)))], [], []⟩
def rfit_ct (n : Nat) (r : Int) : Ct := fun args H => match args with
  | [x0, x1] => (match aZ H x0 with | some l0 => (match aZ H x1 with | some l1 => some ([rfit n l0 l1 = some r], shA H.length (.c (.s (.k .i64 r))), shH H.length []) | none => none) | none => none)
  | _ => none
theorem rfit_ok (n : Nat) (r : Int) : FnOk Try.prog Tr 37 (rfit_ct n r) := by
  refine ⟨fun args H g av objs hF hg ρ w vals hG hp ha => ?_, _, Try.func37, by kernel_rfl, by kernel_rfl⟩
  obtain ⟨x0, x1, rfl⟩ : ∃ x0 x1, args = [x0, x1] := by
    unfold rfit_ct at hF; split at hF
    · exact ⟨_, _, rfl⟩
    · cases hF
  cases e0 : aZ H x0 with
  | none => simp only [rfit_ct, e0, reduceCtorEq] at hF
  | some l0 =>
  cases e1 : aZ H x1 with
  | none => simp only [rfit_ct, e0, e1, reduceCtorEq] at hF
  | some l1 =>
  simp only [rfit_ct, e0, e1, Option.some.injEq, Prod.mk.injEq] at hF
  obtain ⟨rfl, rfl, rfl⟩ := hF
  obtain ⟨v0, vals, rfl, k0, ha⟩ := F2.inv ha
  obtain ⟨v1, vals, rfl, k1, ha⟩ := F2.inv ha
  obtain rfl := F2.inv0 ha
  have hI : ∀ w', Kp (noB (fun _ => undef)) w w' → Tr w' := fun _ hk => Tr.keep hk.below hG
  have h : rfit n l0 l1 = some r := hg
  obtain ⟨p0, s0, o0⟩ := aZ_ok hp e0 (k0) 3
  obtain ⟨p1, s1, o1⟩ := aZ_ok hp e1 (k1) 3
  have hR0 := rel0 (gv := (fun _ => undef)) (n := 53) (w := w) (args := [.c (.wh 0), .c (.wh 1)]) (H := [⟨.ro false, 3, 1, l0.length, .z l0⟩, ⟨.ro false, 3, 1, l1.length, .z l1⟩]) (gl := []) (hpL (ps := [p0, p1]) (F2.cons o0 (F2.cons o1 F2.nil))) (allRo_ok rfl) (F2.cons s0 (F2.cons s1 F2.nil)) GlR.nil (by simp)
  clear ha hp hg k0 k1 e0 e1
  refine calls_W Try.func37 rfl rfl hR0 (Q := fun e s => (e = .ret ∨ e = .normal) ∧ s = rfit_R r) ?_ ?_
  · clear hR0
    unfold rfit at h
    have hT := tabO_nu
    refine W_seq ?_
    refine W_reg hT ftL_nil [] [] [0, 1] [0, 1] (s' := ⟨[(0, .c (.wh 0)), (1, .c (.wh 1))], [], [⟨(.ro false), 3, 1, l0.length, .z l0⟩, ⟨(.ro false), 3, 1, l1.length, .z l1⟩]⟩) (by kernel_rfl) allP_nil ?_
    refine W_seq ?_
    refine W_reg hT ftL_nil [] [] [0, 1, 5] [0, 1] (s' := ⟨[(0, .c (.wh 0)), (1, .c (.wh 1)), (5, .c (.s (.k .i64 ((l1.length : Nat) : Int))))], [], [⟨(.ro false), 3, 1, l0.length, .z l0⟩, ⟨(.ro false), 3, 1, l1.length, .z l1⟩]⟩) (by kernel_rfl) allP_nil ?_
    refine W_seq ?_
    refine W_reg hT ftL_nil [] [] [0, 1, 5] [0, 1] (s' := ⟨[(0, .c (.wh 0)), (1, .c (.wh 1)), (5, .c (.s (.k .i64 ((l1.length : Nat) : Int))))], [], [⟨(.ro false), 3, 1, l0.length, .z l0⟩, ⟨(.ro false), 3, 1, l1.length, .z l1⟩]⟩) (by kernel_rfl) allP_nil ?_
    refine W_join (rfit_j1_P n r) ?_ ?_
    · rintro _ ⟨i6_2, rfl, h⟩
      unfold rfit_j1 at h
      refine W_seq ?_
      refine W_seq ?_
      refine W_reg hT ftL_nil [] [] [6, 51] [] (s' := ⟨[(6, .c (.s (.k .i64 i6_2))), (51, .c (.s (.b (i6_2 == 0))))], [], []⟩) (by kernel_rfl) allP_nil ?_
      refine W_cond (b := (i6_2 == 0)) (by kernel_rfl) (fun g1 => ?_) (fun g1 => ?_)
      · replace h := bif_t h g1
        refine W_seq ?_
        refine W_reg hT ftL_nil [] [] [4] [] (s' := ⟨[(4, .c (.s (.k .i64 1)))], [], []⟩) (by kernel_rfl) allP_nil ?_
        refine W_co [] [4] [] (s' := (rfit_R 1)) (by kernel_rfl) (W_ret ?_)
        exact ⟨.inl rfl, by cases h; rfl⟩
      · replace h := bif_f h g1
        refine W_co [] [6] [] (s' := ⟨[(6, .c (.s (.k .i64 i6_2)))], [], []⟩) (by kernel_rfl) (W_skip ?_)
        refine W_seq ?_
        refine W_reg hT ftL_nil [] [] [4] [] (s' := ⟨[(4, .c (.s (.k .i64 i6_2)))], [], []⟩) (by kernel_rfl) allP_nil ?_
        refine W_co [] [4] [] (s' := (rfit_R i6_2)) (by kernel_rfl) (W_ret ?_)
        exact ⟨.inl rfl, by cases h; rfl⟩
    · refine W_seq ?_
      refine W_reg hT ftL_nil [] [] [0, 1, 5, 10] [0, 1] (s' := ⟨[(0, .c (.wh 0)), (1, .c (.wh 1)), (5, .c (.s (.k .i64 ((l1.length : Nat) : Int)))), (10, .c (.s (.b (((l1.length : Nat) : Int) == 1))))], [], [⟨(.ro false), 3, 1, l0.length, .z l0⟩, ⟨(.ro false), 3, 1, l1.length, .z l1⟩]⟩) (by kernel_rfl) allP_nil ?_
      refine W_cond (b := (((l1.length : Nat) : Int) == 1)) (by kernel_rfl) (fun g30 => ?_) (fun g30 => ?_)
      · replace h := bif_t h g30
        obtain ⟨r12, g2, h⟩ := bind_some' h
        obtain ⟨g3, h⟩ := gd_some h
        obtain ⟨r15, g4, h⟩ := bind_some' h
        obtain ⟨g5, h⟩ := gd_some h
        obtain ⟨g6, h⟩ := gd_some h
        obtain ⟨g7, h⟩ := gd_some h
        obtain ⟨g8, h⟩ := gd_some h
        obtain ⟨g9, h⟩ := gd_some h
        refine W_regD hT (ftL_cons (k := 1) (f := 46) (F := (rdigit_ct n r12)) (rdigit_ok n r12) (fun _ _ => True.intro) (ftL_cons (k := 4) (f := 46) (F := (rdigit_ct n r15)) (rdigit_ok n r15) (fun _ _ => True.intro) ftL_nil)) (by kernel_rfl) 9 [] [(16, false), (19, false)] [] [6] [] (s' := (rfit_j1_E (Int.tdiv ((r12 * 65536) + r15) (l1.getD 0 0)))) (by kernel_rfl) (by kernel_rfl) (allP_cons.2 ⟨g2, (allP_cons.2 ⟨g3, (allP_cons.2 ⟨g4, (allP_cons.2 ⟨g5, (allP_cons.2 ⟨g6, (allP_cons.2 ⟨g7, (allP_cons.2 ⟨g8, (allP_cons.2 ⟨g9, allP_nil⟩)⟩)⟩)⟩)⟩)⟩)⟩)⟩) ?_
        exact rfit_j1_M h
      · replace h := bif_f h g30
        obtain ⟨r23, g10, h⟩ := bind_some' h
        obtain ⟨g11, h⟩ := gd_some h
        obtain ⟨g12, h⟩ := gd_some h
        obtain ⟨r28, g13, h⟩ := bind_some' h
        obtain ⟨g14, h⟩ := gd_some h
        obtain ⟨g15, h⟩ := gd_some h
        obtain ⟨g16, h⟩ := gd_some h
        obtain ⟨r34, g17, h⟩ := bind_some' h
        obtain ⟨g18, h⟩ := gd_some h
        obtain ⟨g19, h⟩ := gd_some h
        obtain ⟨g20, h⟩ := gd_some h
        obtain ⟨g21, h⟩ := gd_some h
        obtain ⟨g22, h⟩ := gd_some h
        obtain ⟨g23, h⟩ := gd_some h
        obtain ⟨g24, h⟩ := gd_some h
        obtain ⟨g25, h⟩ := gd_some h
        obtain ⟨g26, h⟩ := gd_some h
        obtain ⟨g27, h⟩ := gd_some h
        obtain ⟨g28, h⟩ := gd_some h
        obtain ⟨g29, h⟩ := gd_some h
        refine W_regD hT (ftL_cons (k := 2) (f := 46) (F := (rdigit_ct n r23)) (rdigit_ok n r23) (fun _ _ => True.intro) (ftL_cons (k := 7) (f := 46) (F := (rdigit_ct n r28)) (rdigit_ok n r28) (fun _ _ => True.intro) (ftL_cons (k := 13) (f := 46) (F := (rdigit_ct n r34)) (rdigit_ok n r34) (fun _ _ => True.intro) ftL_nil))) (by kernel_rfl) 28 [] [(35, false), (48, false)] [] [6] [] (s' := (rfit_j1_E (Int.tdiv ((((r23 * 65536) + r28) * 65536) + r34) ((((l1.getD ((((l1.length : Nat) : Int) - 1).toNat) 0) * 65536) + (l1.getD ((((l1.length : Nat) : Int) - 2).toNat) 0)) + 1)))) (by kernel_rfl) (by kernel_rfl) (allP_cons.2 ⟨g10, (allP_cons.2 ⟨g11, (allP_cons.2 ⟨g12, (allP_cons.2 ⟨g13, (allP_cons.2 ⟨g14, (allP_cons.2 ⟨g15, (allP_cons.2 ⟨g16, (allP_cons.2 ⟨g17, (allP_cons.2 ⟨g18, (allP_cons.2 ⟨g19, (allP_cons.2 ⟨g20, (allP_cons.2 ⟨g21, (allP_cons.2 ⟨g22, (allP_cons.2 ⟨g23, (allP_cons.2 ⟨g24, (allP_cons.2 ⟨g25, (allP_cons.2 ⟨g26, (allP_cons.2 ⟨g27, (allP_cons.2 ⟨g28, (allP_cons.2 ⟨g29, allP_nil⟩)⟩)⟩)⟩)⟩)⟩)⟩)⟩)⟩)⟩)⟩)⟩)⟩)⟩)⟩)⟩)⟩)⟩)⟩)⟩) ?_
        exact rfit_j1_M h
  · rintro e s' ⟨he, rfl⟩
    refine ⟨he, fun a' w' hr => ?_⟩
    exact retS_ok tabO_nu hr (rs := [.tmp 4]) rfl (objs := []) (by kernel_rfl)
def rMul_l2_E (a0 : List Int) (a1 : List Int) (i6_2 : Int) (z5_11 : List Int) (i7_8 : Int) (i8_8 : Int) : S := ⟨[(0, .c (.wh 0)), (1, .c (.wh 1)), (5, .c (.wh 2)), (6, .c (.s (.k .i64 i6_2))), (7, .c (.s (.k .i64 i7_8))), (8, .c (.s (.k .i64 i8_8)))], [], [⟨(.ro false), 3, 1, a0.length, .z a0⟩, ⟨(.ro false), 3, 1, a1.length, .z a1⟩, ⟨.row, 3, 1, (((a0.length : Nat) : Int) + ((a1.length : Nat) : Int)).toNat, .z z5_11⟩]⟩
def rMul_l2_P (n : Nat) (a0 : List Int) (a1 : List Int) (i6_2 : Int) (k_l1 : (List Int) → Int → Option (List Int × Nat)) (r : List Int × Nat) (fu : Nat) : S → Prop := fun s => ∃ (z5_11 : List Int), ∃ (i7_8 : Int), ∃ (i8_8 : Int), s = rMul_l2_E a0 a1 i6_2 z5_11 i7_8 i8_8 ∧ rMul_l2 n a0 a1 i6_2 k_l1 fu z5_11 i7_8 i8_8 = some r
theorem rMul_l2_M {n : Nat} {a0 : List Int} {a1 : List Int} {i6_2 : Int} {k_l1 : (List Int) → Int → Option (List Int × Nat)} {z5_11 : List Int} {i7_8 : Int} {i8_8 : Int} {r : List Int × Nat} {fu : Nat} (h : rMul_l2 n a0 a1 i6_2 k_l1 fu z5_11 i7_8 i8_8 = some r) : rMul_l2_P n a0 a1 i6_2 k_l1 r fu (rMul_l2_E a0 a1 i6_2 z5_11 i7_8 i8_8) := ⟨z5_11, i7_8, i8_8, rfl, h⟩
def rMul_l1_E (a0 : List Int) (a1 : List Int) (z5_9 : List Int) (i6_2 : Int) : S := ⟨[(0, .c (.wh 0)), (1, .c (.wh 1)), (5, .c (.wh 2)), (6, .c (.s (.k .i64 i6_2)))], [], [⟨(.ro false), 3, 1, a0.length, .z a0⟩, ⟨(.ro false), 3, 1, a1.length, .z a1⟩, ⟨.row, 3, 1, (((a0.length : Nat) : Int) + ((a1.length : Nat) : Int)).toNat, .z z5_9⟩]⟩
def rMul_l1_P (n : Nat) (a0 : List Int) (a1 : List Int) (r : List Int × Nat) (fu : Nat) : S → Prop := fun s => ∃ (z5_9 : List Int), ∃ (i6_2 : Int), s = rMul_l1_E a0 a1 z5_9 i6_2 ∧ rMul_l1 n a0 a1 fu z5_9 i6_2 = some r
theorem rMul_l1_M {n : Nat} {a0 : List Int} {a1 : List Int} {z5_9 : List Int} {i6_2 : Int} {r : List Int × Nat} {fu : Nat} (h : rMul_l1 n a0 a1 fu z5_9 i6_2 = some r) : rMul_l1_P n a0 a1 r fu (rMul_l1_E a0 a1 z5_9 i6_2) := ⟨z5_9, i6_2, rfl, h⟩
def rMul_R (r : List Int × Nat) : S := ⟨[(4, .c (.wh 0))], [], [⟨(.ro true), 3, 1, r.2, .z r.1⟩]⟩
def rMul_ct (n : Nat) (r : List Int × Nat) : Ct := fun args H => match args with
  | [x0, x1] => (match aZ H x0 with | some l0 => (match aZ H x1 with | some l1 => some ([rMul n l0 l1 = some r], shA H.length (.c (.wh 0)), shH H.length [⟨(.ro true), 3, 1, r.2, .z r.1⟩]) | none => none) | none => none)
  | _ => none
theorem rMul_ok (n : Nat) (r : List Int × Nat) : FnOk Try.prog Tr 24 (rMul_ct n r) := by
  refine ⟨fun args H g av objs hF hg ρ w vals hG hp ha => ?_, _, Try.func24, by kernel_rfl, by kernel_rfl⟩
  obtain ⟨x0, x1, rfl⟩ : ∃ x0 x1, args = [x0, x1] := by
    unfold rMul_ct at hF; split at hF
    · exact ⟨_, _, rfl⟩
    · cases hF
  cases e0 : aZ H x0 with
  | none => simp only [rMul_ct, e0, reduceCtorEq] at hF
  | some l0 =>
  cases e1 : aZ H x1 with
  | none => simp only [rMul_ct, e0, e1, reduceCtorEq] at hF
  | some l1 =>
  simp only [rMul_ct, e0, e1, Option.some.injEq, Prod.mk.injEq] at hF
  obtain ⟨rfl, rfl, rfl⟩ := hF
  obtain ⟨v0, vals, rfl, k0, ha⟩ := F2.inv ha
  obtain ⟨v1, vals, rfl, k1, ha⟩ := F2.inv ha
  obtain rfl := F2.inv0 ha
  have hI : ∀ w', Kp (noB (fun _ => undef)) w w' → Tr w' := fun _ hk => Tr.keep hk.below hG
  have h : rMul n l0 l1 = some r := hg
  obtain ⟨p0, s0, o0⟩ := aZ_ok hp e0 (k0) 3
  obtain ⟨p1, s1, o1⟩ := aZ_ok hp e1 (k1) 3
  have hR0 := rel0 (gv := (fun _ => undef)) (n := 63) (w := w) (args := [.c (.wh 0), .c (.wh 1)]) (H := [⟨.ro false, 3, 1, l0.length, .z l0⟩, ⟨.ro false, 3, 1, l1.length, .z l1⟩]) (gl := []) (hpL (ps := [p0, p1]) (F2.cons o0 (F2.cons o1 F2.nil))) (allRo_ok rfl) (F2.cons s0 (F2.cons s1 F2.nil)) GlR.nil (by simp)
  clear ha hp hg k0 k1 e0 e1
  refine calls_W Try.func24 rfl rfl hR0 (Q := fun e s => (e = .ret ∨ e = .normal) ∧ s = rMul_R r) ?_ ?_
  · clear hR0
    unfold rMul at h
    have hT := tabO_nu
    refine W_seq ?_
    refine W_reg hT ftL_nil [] [] [0, 1] [0, 1] (s' := ⟨[(0, .c (.wh 0)), (1, .c (.wh 1))], [], [⟨(.ro false), 3, 1, l0.length, .z l0⟩, ⟨(.ro false), 3, 1, l1.length, .z l1⟩]⟩) (by kernel_rfl) allP_nil ?_
    refine W_seq ?_
    obtain ⟨g1, h⟩ := gd_some h
    obtain ⟨g2, h⟩ := gd_some h
    obtain ⟨g3, h⟩ := gd_some h
    obtain ⟨g4, h⟩ := gd_some h
    refine W_reg hT ftL_nil [] [] [0, 1, 5] [0, 1, 2] (s' := ⟨[(0, .c (.wh 0)), (1, .c (.wh 1)), (5, .c (.wh 2))], [], [⟨(.ro false), 3, 1, l0.length, .z l0⟩, ⟨(.ro false), 3, 1, l1.length, .z l1⟩, ⟨.row, 3, 1, (((l0.length : Nat) : Int) + ((l1.length : Nat) : Int)).toNat, .z (List.replicate ((((l0.length : Nat) : Int) + ((l1.length : Nat) : Int)).toNat) 0)⟩]⟩) (by kernel_rfl) (allP_cons.2 ⟨g1, (allP_cons.2 ⟨g2, (allP_cons.2 ⟨g3, (allP_cons.2 ⟨g4, allP_nil⟩)⟩)⟩)⟩) ?_
    refine W_seq ?_
    refine W_seq ?_
    refine W_reg hT ftL_nil [] [] [0, 1, 5, 6] [0, 1, 2] (s' := ⟨[(0, .c (.wh 0)), (1, .c (.wh 1)), (5, .c (.wh 2)), (6, .c (.s (.k .i64 0)))], [], [⟨(.ro false), 3, 1, l0.length, .z l0⟩, ⟨(.ro false), 3, 1, l1.length, .z l1⟩, ⟨.row, 3, 1, (((l0.length : Nat) : Int) + ((l1.length : Nat) : Int)).toNat, .z (List.replicate ((((l0.length : Nat) : Int) + ((l1.length : Nat) : Int)).toNat) 0)⟩]⟩) (by kernel_rfl) allP_nil ?_
    refine W_block ?_
    refine W_co [] [0, 1, 5, 6] [0, 1, 2] (s' := (rMul_l1_E l0 l1 (List.replicate ((((l0.length : Nat) : Int) + ((l1.length : Nat) : Int)).toNat) 0) 0)) (by kernel_rfl) (W_lp ((rMul_l1_P n l0 l1 r)) n (rMul_l1_M h) ?_)
    rintro fu_l1 _ ⟨z5_9, i6_2, rfl, h⟩
    cases fu_l1 with
    | zero => cases h
    | succ fu_l1 =>
      refine ⟨fu_l1, rfl, ?_⟩
      rw [rMul_l1] at h
      refine W_seq ?_
      refine W_seq ?_
      refine W_reg hT ftL_nil [] [] [0, 1, 5, 6, 18] [0, 1, 2] (s' := ⟨[(0, .c (.wh 0)), (1, .c (.wh 1)), (5, .c (.wh 2)), (6, .c (.s (.k .i64 i6_2))), (18, .c (.s (.b (decide (i6_2 < ((l0.length : Nat) : Int))))))], [], [⟨(.ro false), 3, 1, l0.length, .z l0⟩, ⟨(.ro false), 3, 1, l1.length, .z l1⟩, ⟨.row, 3, 1, (((l0.length : Nat) : Int) + ((l1.length : Nat) : Int)).toNat, .z z5_9⟩]⟩) (by kernel_rfl) allP_nil ?_
      refine W_cond (b := (decide (i6_2 < ((l0.length : Nat) : Int)))) (by kernel_rfl) (fun g28 => ?_) (fun g28 => ?_)
      · replace h := bif_t h g28
        refine W_co [] [0, 1, 5, 6] [0, 1, 2] (s' := ⟨[(0, .c (.wh 0)), (1, .c (.wh 1)), (5, .c (.wh 2)), (6, .c (.s (.k .i64 i6_2)))], [], [⟨(.ro false), 3, 1, l0.length, .z l0⟩, ⟨(.ro false), 3, 1, l1.length, .z l1⟩, ⟨.row, 3, 1, (((l0.length : Nat) : Int) + ((l1.length : Nat) : Int)).toNat, .z z5_9⟩]⟩) (by kernel_rfl) (W_skip ?_)
        refine W_seq ?_
        refine W_block ?_
        refine W_seq ?_
        refine W_reg hT ftL_nil [] [] [0, 1, 5, 6, 7] [0, 1, 2] (s' := ⟨[(0, .c (.wh 0)), (1, .c (.wh 1)), (5, .c (.wh 2)), (6, .c (.s (.k .i64 i6_2))), (7, .c (.s (.k .i64 0)))], [], [⟨(.ro false), 3, 1, l0.length, .z l0⟩, ⟨(.ro false), 3, 1, l1.length, .z l1⟩, ⟨.row, 3, 1, (((l0.length : Nat) : Int) + ((l1.length : Nat) : Int)).toNat, .z z5_9⟩]⟩) (by kernel_rfl) allP_nil ?_
        refine W_seq ?_
        refine W_seq ?_
        refine W_reg hT ftL_nil [] [] [0, 1, 5, 6, 7, 8] [0, 1, 2] (s' := ⟨[(0, .c (.wh 0)), (1, .c (.wh 1)), (5, .c (.wh 2)), (6, .c (.s (.k .i64 i6_2))), (7, .c (.s (.k .i64 0))), (8, .c (.s (.k .i64 0)))], [], [⟨(.ro false), 3, 1, l0.length, .z l0⟩, ⟨(.ro false), 3, 1, l1.length, .z l1⟩, ⟨.row, 3, 1, (((l0.length : Nat) : Int) + ((l1.length : Nat) : Int)).toNat, .z z5_9⟩]⟩) (by kernel_rfl) allP_nil ?_
        refine W_block ?_
        refine W_co [] [0, 1, 5, 6, 7, 8] [0, 1, 2] (s' := (rMul_l2_E l0 l1 i6_2 z5_9 0 0)) (by kernel_rfl) (W_lp ((rMul_l2_P n l0 l1 i6_2 (rMul_l1 n l0 l1 fu_l1) r)) n (rMul_l2_M h) ?_)
        rintro fu_l2 _ ⟨z5_11, i7_8, i8_8, rfl, h⟩
        cases fu_l2 with
        | zero => cases h
        | succ fu_l2 =>
          refine ⟨fu_l2, rfl, ?_⟩
          rw [rMul_l2] at h
          refine W_seq ?_
          refine W_seq ?_
          refine W_reg hT ftL_nil [] [] [0, 1, 5, 6, 7, 8, 24] [0, 1, 2] (s' := ⟨[(0, .c (.wh 0)), (1, .c (.wh 1)), (5, .c (.wh 2)), (6, .c (.s (.k .i64 i6_2))), (7, .c (.s (.k .i64 i7_8))), (8, .c (.s (.k .i64 i8_8))), (24, .c (.s (.b (decide (i8_8 < ((l1.length : Nat) : Int))))))], [], [⟨(.ro false), 3, 1, l0.length, .z l0⟩, ⟨(.ro false), 3, 1, l1.length, .z l1⟩, ⟨.row, 3, 1, (((l0.length : Nat) : Int) + ((l1.length : Nat) : Int)).toNat, .z z5_11⟩]⟩) (by kernel_rfl) allP_nil ?_
          refine W_cond (b := (decide (i8_8 < ((l1.length : Nat) : Int)))) (by kernel_rfl) (fun g26 => ?_) (fun g26 => ?_)
          · replace h := bif_t h g26
            refine W_co [] [0, 1, 5, 6, 7, 8] [0, 1, 2] (s' := ⟨[(0, .c (.wh 0)), (1, .c (.wh 1)), (5, .c (.wh 2)), (6, .c (.s (.k .i64 i6_2))), (7, .c (.s (.k .i64 i7_8))), (8, .c (.s (.k .i64 i8_8)))], [], [⟨(.ro false), 3, 1, l0.length, .z l0⟩, ⟨(.ro false), 3, 1, l1.length, .z l1⟩, ⟨.row, 3, 1, (((l0.length : Nat) : Int) + ((l1.length : Nat) : Int)).toNat, .z z5_11⟩]⟩) (by kernel_rfl) (W_skip ?_)
            refine W_seq ?_
            refine W_block ?_
            refine W_seq ?_
            obtain ⟨g5, h⟩ := gd_some h
            obtain ⟨g6, h⟩ := gd_some h
            obtain ⟨g7, h⟩ := gd_some h
            obtain ⟨g8, h⟩ := gd_some h
            obtain ⟨g9, h⟩ := gd_some h
            obtain ⟨g10, h⟩ := gd_some h
            obtain ⟨g11, h⟩ := gd_some h
            obtain ⟨g12, h⟩ := gd_some h
            obtain ⟨g13, h⟩ := gd_some h
            obtain ⟨g14, h⟩ := gd_some h
            refine W_regD hT ftL_nil (by kernel_rfl) 17 [] [(0, false), (1, false), (5, false), (6, false), (7, false), (8, false), (37, false), (43, false)] [] [0, 1, 5, 6, 7, 8] [0, 1, 2] (s' := ⟨[(0, .c (.wh 0)), (1, .c (.wh 1)), (5, .c (.wh 2)), (6, .c (.s (.k .i64 i6_2))), (7, .c (.s (.k .i64 ((i7_8 + ((l0.getD i6_2.toNat 0) * (l1.getD i8_8.toNat 0))) + (z5_11.getD ((i6_2 + i8_8).toNat) 0))))), (8, .c (.s (.k .i64 i8_8)))], [], [⟨(.ro false), 3, 1, l0.length, .z l0⟩, ⟨(.ro false), 3, 1, l1.length, .z l1⟩, ⟨.row, 3, 1, (((l0.length : Nat) : Int) + ((l1.length : Nat) : Int)).toNat, .z z5_11⟩]⟩) (by kernel_rfl) (by kernel_rfl) (allP_cons.2 ⟨g5, (allP_cons.2 ⟨g6, (allP_cons.2 ⟨g7, (allP_cons.2 ⟨g8, (allP_cons.2 ⟨g9, (allP_cons.2 ⟨g10, (allP_cons.2 ⟨g11, (allP_cons.2 ⟨g12, (allP_cons.2 ⟨g13, (allP_cons.2 ⟨g14, allP_nil⟩)⟩)⟩)⟩)⟩)⟩)⟩)⟩)⟩)⟩) ?_
            refine W_seq ?_
            obtain ⟨g15, h⟩ := gd_some h
            obtain ⟨g16, h⟩ := gd_some h
            obtain ⟨g17, h⟩ := gd_some h
            obtain ⟨g18, h⟩ := gd_some h
            refine W_reg hT ftL_nil [] [] [0, 1, 5, 6, 7, 8] [0, 1, 2] (s' := ⟨[(0, .c (.wh 0)), (1, .c (.wh 1)), (5, .c (.wh 2)), (6, .c (.s (.k .i64 i6_2))), (7, .c (.s (.k .i64 ((i7_8 + ((l0.getD i6_2.toNat 0) * (l1.getD i8_8.toNat 0))) + (z5_11.getD ((i6_2 + i8_8).toNat) 0))))), (8, .c (.s (.k .i64 i8_8)))], [], [⟨(.ro false), 3, 1, l0.length, .z l0⟩, ⟨(.ro false), 3, 1, l1.length, .z l1⟩, ⟨.row, 3, 1, (((l0.length : Nat) : Int) + ((l1.length : Nat) : Int)).toNat, .z (z5_11.set ((i6_2 + i8_8).toNat) (Int.tmod ((i7_8 + ((l0.getD i6_2.toNat 0) * (l1.getD i8_8.toNat 0))) + (z5_11.getD ((i6_2 + i8_8).toNat) 0)) 65536))⟩]⟩) (by kernel_rfl) (allP_cons.2 ⟨g15, (allP_cons.2 ⟨g16, (allP_cons.2 ⟨g17, (allP_cons.2 ⟨g18, allP_nil⟩)⟩)⟩)⟩) ?_
            obtain ⟨g19, h⟩ := gd_some h
            obtain ⟨g20, h⟩ := gd_some h
            refine W_reg hT ftL_nil [] [] [0, 1, 5, 6, 7, 8] [0, 1, 2] (s' := ⟨[(0, .c (.wh 0)), (1, .c (.wh 1)), (5, .c (.wh 2)), (6, .c (.s (.k .i64 i6_2))), (7, .c (.s (.k .i64 (Int.tdiv ((i7_8 + ((l0.getD i6_2.toNat 0) * (l1.getD i8_8.toNat 0))) + (z5_11.getD ((i6_2 + i8_8).toNat) 0)) 65536)))), (8, .c (.s (.k .i64 i8_8)))], [], [⟨(.ro false), 3, 1, l0.length, .z l0⟩, ⟨(.ro false), 3, 1, l1.length, .z l1⟩, ⟨.row, 3, 1, (((l0.length : Nat) : Int) + ((l1.length : Nat) : Int)).toNat, .z (z5_11.set ((i6_2 + i8_8).toNat) (Int.tmod ((i7_8 + ((l0.getD i6_2.toNat 0) * (l1.getD i8_8.toNat 0))) + (z5_11.getD ((i6_2 + i8_8).toNat) 0)) 65536))⟩]⟩) (by kernel_rfl) (allP_cons.2 ⟨g19, (allP_cons.2 ⟨g20, allP_nil⟩)⟩) ?_
            obtain ⟨g21, h⟩ := gd_some h
            refine W_reg hT ftL_nil [] [] [0, 1, 5, 6, 7, 8] [0, 1, 2] (s' := (rMul_l2_E l0 l1 i6_2 (z5_11.set ((i6_2 + i8_8).toNat) (Int.tmod ((i7_8 + ((l0.getD i6_2.toNat 0) * (l1.getD i8_8.toNat 0))) + (z5_11.getD ((i6_2 + i8_8).toNat) 0)) 65536)) (Int.tdiv ((i7_8 + ((l0.getD i6_2.toNat 0) * (l1.getD i8_8.toNat 0))) + (z5_11.getD ((i6_2 + i8_8).toNat) 0)) 65536) (i8_8 + 1))) (by kernel_rfl) (allP_cons.2 ⟨g21, allP_nil⟩) ?_
            exact rMul_l2_M h
          · replace h := bif_f h g26
            refine W_co [] [0, 1, 5, 6, 7] [0, 1, 2] (s' := ⟨[(0, .c (.wh 0)), (1, .c (.wh 1)), (5, .c (.wh 2)), (6, .c (.s (.k .i64 i6_2))), (7, .c (.s (.k .i64 i7_8)))], [], [⟨(.ro false), 3, 1, l0.length, .z l0⟩, ⟨(.ro false), 3, 1, l1.length, .z l1⟩, ⟨.row, 3, 1, (((l0.length : Nat) : Int) + ((l1.length : Nat) : Int)).toNat, .z z5_11⟩]⟩) (by kernel_rfl) (W_exit ?_)
            obtain ⟨g22, h⟩ := gd_some h
            obtain ⟨g23, h⟩ := gd_some h
            obtain ⟨g24, h⟩ := gd_some h
            refine W_reg hT ftL_nil [] [] [0, 1, 5, 6] [0, 1, 2] (s' := ⟨[(0, .c (.wh 0)), (1, .c (.wh 1)), (5, .c (.wh 2)), (6, .c (.s (.k .i64 i6_2)))], [], [⟨(.ro false), 3, 1, l0.length, .z l0⟩, ⟨(.ro false), 3, 1, l1.length, .z l1⟩, ⟨.row, 3, 1, (((l0.length : Nat) : Int) + ((l1.length : Nat) : Int)).toNat, .z (z5_11.set ((i6_2 + ((l1.length : Nat) : Int)).toNat) i7_8)⟩]⟩) (by kernel_rfl) (allP_cons.2 ⟨g22, (allP_cons.2 ⟨g23, (allP_cons.2 ⟨g24, allP_nil⟩)⟩)⟩) ?_
            obtain ⟨g25, h⟩ := gd_some h
            refine W_reg hT ftL_nil [] [] [0, 1, 5, 6] [0, 1, 2] (s' := (rMul_l1_E l0 l1 (z5_11.set ((i6_2 + ((l1.length : Nat) : Int)).toNat) i7_8) (i6_2 + 1))) (by kernel_rfl) (allP_cons.2 ⟨g25, allP_nil⟩) ?_
            exact rMul_l1_M h
      · replace h := bif_f h g28
        refine W_co [] [5] [2] (s' := ⟨[(5, .c (.wh 0))], [], [⟨.row, 3, 1, (((l0.length : Nat) : Int) + ((l1.length : Nat) : Int)).toNat, .z z5_9⟩]⟩) (by kernel_rfl) (W_exit ?_)
        refine W_seq ?_
        obtain ⟨r62_2, g27, h⟩ := bind_some' h
        refine W_reg hT (ftL_cons (k := 1) (f := 36) (F := (rtrim_ct n r62_2)) (rtrim_ok n r62_2) (fun _ _ => True.intro) ftL_nil) [] [] [4] [0] (s' := ⟨[(4, .c (.sl 0 0 r62_2.2))], [], [⟨.row, 3, 1, (((l0.length : Nat) : Int) + ((l1.length : Nat) : Int)).toNat, .z z5_9⟩]⟩) (by kernel_rfl) (allP_cons.2 ⟨g27, allP_nil⟩) ?_
        refine W_co [.vw 4 true] [4] [1] (s' := (rMul_R (((z5_9.drop 0).take r62_2.2), r62_2.2))) (by kernel_rfl) (W_ret ?_)
        exact ⟨.inl rfl, by cases h; rfl⟩
  · rintro e s' ⟨he, rfl⟩
    refine ⟨he, fun a' w' hr => ?_⟩
    exact retS_ok tabO_nu hr (rs := [.tmp 4]) rfl (objs := [0]) (by kernel_rfl)
def rSub_j1_E (a0 : List Int) (a1 : List Int) (z5_2 : List Int) (i7_2 : Int) (i6_11 : Int) (i8_8 : Int) : S := ⟨[(0, .c (.wh 0)), (1, .c (.wh 1)), (5, .c (.wh 2)), (6, .c (.s (.k .i64 i6_11))), (7, .c (.s (.k .i64 i7_2))), (8, .c (.s (.k .i64 i8_8)))], [], [⟨(.ro false), 3, 1, a0.length, .z a0⟩, ⟨(.ro false), 3, 1, a1.length, .z a1⟩, ⟨.row, 3, 1, z5_2.length, .z z5_2⟩]⟩
def rSub_j1_P (n : Nat) (a0 : List Int) (a1 : List Int) (z5_2 : List Int) (i7_2 : Int) (k_l1 : (List Int) → Int → Int → Option (List Int × Nat)) (r : List Int × Nat) : S → Prop := fun s => ∃ (i6_11 : Int), ∃ (i8_8 : Int), s = rSub_j1_E a0 a1 z5_2 i7_2 i6_11 i8_8 ∧ rSub_j1 n a0 a1 z5_2 i7_2 k_l1 i6_11 i8_8 = some r
theorem rSub_j1_M {n : Nat} {a0 : List Int} {a1 : List Int} {z5_2 : List Int} {i7_2 : Int} {k_l1 : (List Int) → Int → Int → Option (List Int × Nat)} {i6_11 : Int} {i8_8 : Int} {r : List Int × Nat} (h : rSub_j1 n a0 a1 z5_2 i7_2 k_l1 i6_11 i8_8 = some r) : rSub_j1_P n a0 a1 z5_2 i7_2 k_l1 r (rSub_j1_E a0 a1 z5_2 i7_2 i6_11 i8_8) := ⟨i6_11, i8_8, rfl, h⟩
def rSub_l1_E (a0 : List Int) (a1 : List Int) (z5_2 : List Int) (i6_9 : Int) (i7_2 : Int) : S := ⟨[(0, .c (.wh 0)), (1, .c (.wh 1)), (5, .c (.wh 2)), (6, .c (.s (.k .i64 i6_9))), (7, .c (.s (.k .i64 i7_2)))], [], [⟨(.ro false), 3, 1, a0.length, .z a0⟩, ⟨(.ro false), 3, 1, a1.length, .z a1⟩, ⟨.row, 3, 1, z5_2.length, .z z5_2⟩]⟩
def rSub_l1_P (n : Nat) (a0 : List Int) (a1 : List Int) (r : List Int × Nat) (fu : Nat) : S → Prop := fun s => ∃ (z5_2 : List Int), ∃ (i6_9 : Int), ∃ (i7_2 : Int), s = rSub_l1_E a0 a1 z5_2 i6_9 i7_2 ∧ rSub_l1 n a0 a1 fu z5_2 i6_9 i7_2 = some r
theorem rSub_l1_M {n : Nat} {a0 : List Int} {a1 : List Int} {z5_2 : List Int} {i6_9 : Int} {i7_2 : Int} {r : List Int × Nat} {fu : Nat} (h : rSub_l1 n a0 a1 fu z5_2 i6_9 i7_2 = some r) : rSub_l1_P n a0 a1 r fu (rSub_l1_E a0 a1 z5_2 i6_9 i7_2) := ⟨z5_2, i6_9, i7_2, rfl, h⟩
def rSub_R (r : List Int × Nat) : S := ⟨[(4, .c (.wh 0))], [], [⟨(.ro true), 3, 1, r.2, .z r.1⟩]⟩
def rSub_ct (n : Nat) (r : List Int × Nat) : Ct := fun args H => match args with
  | [x0, x1] => (match aZ H x0 with | some l0 => (match aZ H x1 with | some l1 => some ([rSub n l0 l1 = some r], shA H.length (.c (.wh 0)), shH H.length [⟨(.ro true), 3, 1, r.2, .z r.1⟩]) | none => none) | none => none)
  | _ => none
theorem rSub_ok (n : Nat) (r : List Int × Nat) : FnOk Try.prog Tr 29 (rSub_ct n r) := by
  refine ⟨fun args H g av objs hF hg ρ w vals hG hp ha => ?_, _, Try.func29, by kernel_rfl, by kernel_rfl⟩
  obtain ⟨x0, x1, rfl⟩ : ∃ x0 x1, args = [x0, x1] := by
    unfold rSub_ct at hF; split at hF
    · exact ⟨_, _, rfl⟩
    · cases hF
  cases e0 : aZ H x0 with
  | none => simp only [rSub_ct, e0, reduceCtorEq] at hF
  | some l0 =>
  cases e1 : aZ H x1 with
  | none => simp only [rSub_ct, e0, e1, reduceCtorEq] at hF
  | some l1 =>
  simp only [rSub_ct, e0, e1, Option.some.injEq, Prod.mk.injEq] at hF
  obtain ⟨rfl, rfl, rfl⟩ := hF
  obtain ⟨v0, vals, rfl, k0, ha⟩ := F2.inv ha
  obtain ⟨v1, vals, rfl, k1, ha⟩ := F2.inv ha
  obtain rfl := F2.inv0 ha
  have hI : ∀ w', Kp (noB (fun _ => undef)) w w' → Tr w' := fun _ hk => Tr.keep hk.below hG
  have h : rSub n l0 l1 = some r := hg
  obtain ⟨p0, s0, o0⟩ := aZ_ok hp e0 (k0) 3
  obtain ⟨p1, s1, o1⟩ := aZ_ok hp e1 (k1) 3
  have hR0 := rel0 (gv := (fun _ => undef)) (n := 35) (w := w) (args := [.c (.wh 0), .c (.wh 1)]) (H := [⟨.ro false, 3, 1, l0.length, .z l0⟩, ⟨.ro false, 3, 1, l1.length, .z l1⟩]) (gl := []) (hpL (ps := [p0, p1]) (F2.cons o0 (F2.cons o1 F2.nil))) (allRo_ok rfl) (F2.cons s0 (F2.cons s1 F2.nil)) GlR.nil (by simp)
  clear ha hp hg k0 k1 e0 e1
  refine calls_W Try.func29 rfl rfl hR0 (Q := fun e s => (e = .ret ∨ e = .normal) ∧ s = rSub_R r) ?_ ?_
  · clear hR0
    unfold rSub at h
    have hT := tabO_nu
    refine W_seq ?_
    refine W_reg hT ftL_nil [] [] [0, 1] [0, 1] (s' := ⟨[(0, .c (.wh 0)), (1, .c (.wh 1))], [], [⟨(.ro false), 3, 1, l0.length, .z l0⟩, ⟨(.ro false), 3, 1, l1.length, .z l1⟩]⟩) (by kernel_rfl) allP_nil ?_
    refine W_seq ?_
    refine W_reg hT ftL_nil [] [] [0, 1, 5] [0, 1] (s' := ⟨[(0, .c (.wh 0)), (1, .c (.wh 1)), (5, .c (.nils))], [], [⟨(.ro false), 3, 1, l0.length, .z l0⟩, ⟨(.ro false), 3, 1, l1.length, .z l1⟩]⟩) (by kernel_rfl) allP_nil ?_
    refine W_seq ?_
    refine W_reg hT ftL_nil [] [] [0, 1, 5, 6] [0, 1] (s' := ⟨[(0, .c (.wh 0)), (1, .c (.wh 1)), (5, .c (.nils)), (6, .c (.s (.k .i64 0)))], [], [⟨(.ro false), 3, 1, l0.length, .z l0⟩, ⟨(.ro false), 3, 1, l1.length, .z l1⟩]⟩) (by kernel_rfl) allP_nil ?_
    refine W_seq ?_
    refine W_seq ?_
    refine W_reg hT ftL_nil [] [] [0, 1, 5, 6, 7] [0, 1] (s' := ⟨[(0, .c (.wh 0)), (1, .c (.wh 1)), (5, .c (.nils)), (6, .c (.s (.k .i64 0))), (7, .c (.s (.k .i64 0)))], [], [⟨(.ro false), 3, 1, l0.length, .z l0⟩, ⟨(.ro false), 3, 1, l1.length, .z l1⟩]⟩) (by kernel_rfl) allP_nil ?_
    refine W_block ?_
    refine W_co [.nil 5 3 1 (.z [])] [0, 1, 5, 6, 7] [0, 1, 2] (s' := (rSub_l1_E l0 l1 [] 0 0)) (by kernel_rfl) (W_lp ((rSub_l1_P n l0 l1 r)) n (rSub_l1_M h) ?_)
    rintro fu_l1 _ ⟨z5_2, i6_9, i7_2, rfl, h⟩
    cases fu_l1 with
    | zero => cases h
    | succ fu_l1 =>
      refine ⟨fu_l1, rfl, ?_⟩
      rw [rSub_l1] at h
      refine W_seq ?_
      refine W_seq ?_
      refine W_reg hT ftL_nil [] [] [0, 1, 5, 6, 7, 12] [0, 1, 2] (s' := ⟨[(0, .c (.wh 0)), (1, .c (.wh 1)), (5, .c (.wh 2)), (6, .c (.s (.k .i64 i6_9))), (7, .c (.s (.k .i64 i7_2))), (12, .c (.s (.b (decide (i7_2 < ((l0.length : Nat) : Int))))))], [], [⟨(.ro false), 3, 1, l0.length, .z l0⟩, ⟨(.ro false), 3, 1, l1.length, .z l1⟩, ⟨.row, 3, 1, z5_2.length, .z z5_2⟩]⟩) (by kernel_rfl) allP_nil ?_
      refine W_cond (b := (decide (i7_2 < ((l0.length : Nat) : Int)))) (by kernel_rfl) (fun g11 => ?_) (fun g11 => ?_)
      · replace h := bif_t h g11
        refine W_co [] [0, 1, 5, 6, 7] [0, 1, 2] (s' := ⟨[(0, .c (.wh 0)), (1, .c (.wh 1)), (5, .c (.wh 2)), (6, .c (.s (.k .i64 i6_9))), (7, .c (.s (.k .i64 i7_2)))], [], [⟨(.ro false), 3, 1, l0.length, .z l0⟩, ⟨(.ro false), 3, 1, l1.length, .z l1⟩, ⟨.row, 3, 1, z5_2.length, .z z5_2⟩]⟩) (by kernel_rfl) (W_skip ?_)
        refine W_seq ?_
        refine W_block ?_
        refine W_seq ?_
        obtain ⟨g1, h⟩ := gd_some h
        obtain ⟨g2, h⟩ := gd_some h
        obtain ⟨r21_3, g3, h⟩ := bind_some' h
        obtain ⟨g4, h⟩ := gd_some h
        obtain ⟨g5, h⟩ := gd_some h
        refine W_regD hT (ftL_cons (k := 6) (f := 46) (F := (rdigit_ct n r21_3)) (rdigit_ok n r21_3) (fun _ _ => True.intro) ftL_nil) (by kernel_rfl) 9 [] [(0, false), (1, false), (5, false), (7, false), (22, false), (23, false)] [] [0, 1, 5, 7, 8] [0, 1, 2] (s' := ⟨[(0, .c (.wh 0)), (1, .c (.wh 1)), (5, .c (.wh 2)), (7, .c (.s (.k .i64 i7_2))), (8, .c (.s (.k .i64 (((l0.getD i7_2.toNat 0) - r21_3) - i6_9))))], [], [⟨(.ro false), 3, 1, l0.length, .z l0⟩, ⟨(.ro false), 3, 1, l1.length, .z l1⟩, ⟨.row, 3, 1, z5_2.length, .z z5_2⟩]⟩) (by kernel_rfl) (by kernel_rfl) (allP_cons.2 ⟨g1, (allP_cons.2 ⟨g2, (allP_cons.2 ⟨g3, (allP_cons.2 ⟨g4, (allP_cons.2 ⟨g5, allP_nil⟩)⟩)⟩)⟩)⟩) ?_
        refine W_seq ?_
        refine W_reg hT ftL_nil [] [] [0, 1, 5, 6, 7, 8] [0, 1, 2] (s' := ⟨[(0, .c (.wh 0)), (1, .c (.wh 1)), (5, .c (.wh 2)), (6, .c (.s (.k .i64 0))), (7, .c (.s (.k .i64 i7_2))), (8, .c (.s (.k .i64 (((l0.getD i7_2.toNat 0) - r21_3) - i6_9))))], [], [⟨(.ro false), 3, 1, l0.length, .z l0⟩, ⟨(.ro false), 3, 1, l1.length, .z l1⟩, ⟨.row, 3, 1, z5_2.length, .z z5_2⟩]⟩) (by kernel_rfl) allP_nil ?_
        refine W_join (rSub_j1_P n l0 l1 z5_2 i7_2 (rSub_l1 n l0 l1 fu_l1) r) ?_ ?_
        · rintro _ ⟨i6_11, i8_8, rfl, h⟩
          unfold rSub_j1 at h
          obtain ⟨g6, h⟩ := gd_some h
          refine W_reg hT ftL_nil [] [] [0, 1, 5, 6, 7] [0, 1, 4] (s' := ⟨[(0, .c (.wh 0)), (1, .c (.wh 1)), (5, .c (.wh 2)), (6, .c (.s (.k .i64 i6_11))), (7, .c (.s (.k .i64 i7_2)))], [], [⟨(.ro false), 3, 1, l0.length, .z l0⟩, ⟨(.ro false), 3, 1, l1.length, .z l1⟩, ⟨.row, 3, 1, (z5_2 ++ [i8_8]).length, .z (z5_2 ++ [i8_8])⟩]⟩) (by kernel_rfl) (allP_cons.2 ⟨g6, allP_nil⟩) ?_
          obtain ⟨g7, h⟩ := gd_some h
          refine W_reg hT ftL_nil [] [] [0, 1, 5, 6, 7] [0, 1, 2] (s' := (rSub_l1_E l0 l1 (z5_2 ++ [i8_8]) i6_11 (i7_2 + 1))) (by kernel_rfl) (allP_cons.2 ⟨g7, allP_nil⟩) ?_
          exact rSub_l1_M h
        · refine W_seq ?_
          refine W_reg hT ftL_nil [] [] [0, 1, 5, 6, 7, 8, 26] [0, 1, 2] (s' := ⟨[(0, .c (.wh 0)), (1, .c (.wh 1)), (5, .c (.wh 2)), (6, .c (.s (.k .i64 0))), (7, .c (.s (.k .i64 i7_2))), (8, .c (.s (.k .i64 (((l0.getD i7_2.toNat 0) - r21_3) - i6_9)))), (26, .c (.s (.b (decide ((((l0.getD i7_2.toNat 0) - r21_3) - i6_9) < (0 : Int))))))], [], [⟨(.ro false), 3, 1, l0.length, .z l0⟩, ⟨(.ro false), 3, 1, l1.length, .z l1⟩, ⟨.row, 3, 1, z5_2.length, .z z5_2⟩]⟩) (by kernel_rfl) allP_nil ?_
          refine W_cond (b := (decide ((((l0.getD i7_2.toNat 0) - r21_3) - i6_9) < (0 : Int)))) (by kernel_rfl) (fun g9 => ?_) (fun g9 => ?_)
          · replace h := bif_t h g9
            refine W_seq ?_
            obtain ⟨g8, h⟩ := gd_some h
            refine W_reg hT ftL_nil [] [] [0, 1, 5, 7, 8] [0, 1, 2] (s' := ⟨[(0, .c (.wh 0)), (1, .c (.wh 1)), (5, .c (.wh 2)), (7, .c (.s (.k .i64 i7_2))), (8, .c (.s (.k .i64 ((((l0.getD i7_2.toNat 0) - r21_3) - i6_9) + 65536))))], [], [⟨(.ro false), 3, 1, l0.length, .z l0⟩, ⟨(.ro false), 3, 1, l1.length, .z l1⟩, ⟨.row, 3, 1, z5_2.length, .z z5_2⟩]⟩) (by kernel_rfl) (allP_cons.2 ⟨g8, allP_nil⟩) ?_
            refine W_reg hT ftL_nil [] [] [0, 1, 5, 6, 7, 8] [0, 1, 2] (s' := (rSub_j1_E l0 l1 z5_2 i7_2 1 ((((l0.getD i7_2.toNat 0) - r21_3) - i6_9) + 65536))) (by kernel_rfl) allP_nil ?_
            exact rSub_j1_M h
          · replace h := bif_f h g9
            refine W_co [] [0, 1, 5, 6, 7, 8] [0, 1, 2] (s' := (rSub_j1_E l0 l1 z5_2 i7_2 0 (((l0.getD i7_2.toNat 0) - r21_3) - i6_9))) (by kernel_rfl) (W_skip ?_)
            exact rSub_j1_M h
      · replace h := bif_f h g11
        refine W_co [] [5] [2] (s' := ⟨[(5, .c (.wh 0))], [], [⟨.row, 3, 1, z5_2.length, .z z5_2⟩]⟩) (by kernel_rfl) (W_exit ?_)
        refine W_seq ?_
        obtain ⟨r34_2, g10, h⟩ := bind_some' h
        refine W_reg hT (ftL_cons (k := 1) (f := 36) (F := (rtrim_ct n r34_2)) (rtrim_ok n r34_2) (fun _ _ => True.intro) ftL_nil) [] [] [4] [0] (s' := ⟨[(4, .c (.sl 0 0 r34_2.2))], [], [⟨.row, 3, 1, z5_2.length, .z z5_2⟩]⟩) (by kernel_rfl) (allP_cons.2 ⟨g10, allP_nil⟩) ?_
        refine W_co [.vw 4 true] [4] [1] (s' := (rSub_R (((z5_2.drop 0).take r34_2.2), r34_2.2))) (by kernel_rfl) (W_ret ?_)
        exact ⟨.inl rfl, by cases h; rfl⟩
  · rintro e s' ⟨he, rfl⟩
    refine ⟨he, fun a' w' hr => ?_⟩
    exact retS_ok tabO_nu hr (rs := [.tmp 4]) rfl (objs := [0]) (by kernel_rfl)
def rDiv_l2_E (a0 : List Int) (a1 : List Int) (i8_1 : Int) (z6_7 : List Int) (z7_7 : List Int) (m7_7 : Nat) : S := ⟨[(0, .c (.wh 0)), (1, .c (.wh 1)), (6, .c (.wh 2)), (7, .c (.wh 3)), (8, .c (.s (.k .i64 i8_1)))], [], [⟨(.ro false), 3, 1, a0.length, .z a0⟩, ⟨(.ro false), 3, 1, a1.length, .z a1⟩, ⟨.row, 3, 1, ((a0.length : Nat) : Int).toNat, .z z6_7⟩, ⟨(.ro true), 3, 1, m7_7, .z z7_7⟩]⟩
def rDiv_l2_P (n : Nat) (a0 : List Int) (a1 : List Int) (i8_1 : Int) (k_l1 : (List Int) → (List Int) → Nat → Int → Option (List Int × Nat × List Int × Nat)) (r : List Int × Nat × List Int × Nat) (fu : Nat) : S → Prop := fun s => ∃ (z6_7 : List Int), ∃ (z7_7 : List Int), ∃ (m7_7 : Nat), s = rDiv_l2_E a0 a1 i8_1 z6_7 z7_7 m7_7 ∧ rDiv_l2 n a0 a1 i8_1 k_l1 fu z6_7 z7_7 m7_7 = some r
theorem rDiv_l2_M {n : Nat} {a0 : List Int} {a1 : List Int} {i8_1 : Int} {k_l1 : (List Int) → (List Int) → Nat → Int → Option (List Int × Nat × List Int × Nat)} {z6_7 : List Int} {z7_7 : List Int} {m7_7 : Nat} {r : List Int × Nat × List Int × Nat} {fu : Nat} (h : rDiv_l2 n a0 a1 i8_1 k_l1 fu z6_7 z7_7 m7_7 = some r) : rDiv_l2_P n a0 a1 i8_1 k_l1 r fu (rDiv_l2_E a0 a1 i8_1 z6_7 z7_7 m7_7) := ⟨z6_7, z7_7, m7_7, rfl, h⟩
def rDiv_l1_E (a0 : List Int) (a1 : List Int) (z6_5 : List Int) (z7_5 : List Int) (m7_5 : Nat) (i8_1 : Int) : S := ⟨[(0, .c (.wh 0)), (1, .c (.wh 1)), (6, .c (.wh 2)), (7, .c (.wh 3)), (8, .c (.s (.k .i64 i8_1)))], [], [⟨(.ro false), 3, 1, a0.length, .z a0⟩, ⟨(.ro false), 3, 1, a1.length, .z a1⟩, ⟨.row, 3, 1, ((a0.length : Nat) : Int).toNat, .z z6_5⟩, ⟨(.ro true), 3, 1, m7_5, .z z7_5⟩]⟩
def rDiv_l1_P (n : Nat) (a0 : List Int) (a1 : List Int) (r : List Int × Nat × List Int × Nat) (fu : Nat) : S → Prop := fun s => ∃ (z6_5 : List Int), ∃ (z7_5 : List Int), ∃ (m7_5 : Nat), ∃ (i8_1 : Int), s = rDiv_l1_E a0 a1 z6_5 z7_5 m7_5 i8_1 ∧ rDiv_l1 n a0 a1 fu z6_5 z7_5 m7_5 i8_1 = some r
theorem rDiv_l1_M {n : Nat} {a0 : List Int} {a1 : List Int} {z6_5 : List Int} {z7_5 : List Int} {m7_5 : Nat} {i8_1 : Int} {r : List Int × Nat × List Int × Nat} {fu : Nat} (h : rDiv_l1 n a0 a1 fu z6_5 z7_5 m7_5 i8_1 = some r) : rDiv_l1_P n a0 a1 r fu (rDiv_l1_E a0 a1 z6_5 z7_5 m7_5 i8_1) := ⟨z6_5, z7_5, m7_5, i8_1, rfl, h⟩
def rDiv_R (r : List Int × Nat × List Int × Nat) : S := ⟨[(4, .c (.wh 0)), (5, .c (.wh 1))], [], [⟨(.ro true), 3, 1, r.2.1, .z r.1⟩, ⟨(.ro true), 3, 1, r.2.2.2, .z r.2.2.1⟩]⟩
def rDiv_ct (n : Nat) (r : List Int × Nat × List Int × Nat) : Ct := fun args H => match args with
  | [x0, x1] => (match aZ H x0 with | some l0 => (match aZ H x1 with | some l1 => some ([rDiv n l0 l1 = some r], shA H.length (.t [.c (.wh 0), .c (.wh 1)]), shH H.length [⟨(.ro true), 3, 1, r.2.1, .z r.1⟩, ⟨(.ro true), 3, 1, r.2.2.2, .z r.2.2.1⟩]) | none => none) | none => none)
  | _ => none
theorem rDiv_ok (n : Nat) (r : List Int × Nat × List Int × Nat) : FnOk Try.prog Tr 16 (rDiv_ct n r) := by
  refine ⟨fun args H g av objs hF hg ρ w vals hG hp ha => ?_, _, Try.func16, by kernel_rfl, by kernel_rfl⟩
  obtain ⟨x0, x1, rfl⟩ : ∃ x0 x1, args = [x0, x1] := by
    unfold rDiv_ct at hF; split at hF
    · exact ⟨_, _, rfl⟩
    · cases hF
  cases e0 : aZ H x0 with
  | none => simp only [rDiv_ct, e0, reduceCtorEq] at hF
  | some l0 =>
  cases e1 : aZ H x1 with
  | none => simp only [rDiv_ct, e0, e1, reduceCtorEq] at hF
  | some l1 =>
  simp only [rDiv_ct, e0, e1, Option.some.injEq, Prod.mk.injEq] at hF
  obtain ⟨rfl, rfl, rfl⟩ := hF
  obtain ⟨v0, vals, rfl, k0, ha⟩ := F2.inv ha
  obtain ⟨v1, vals, rfl, k1, ha⟩ := F2.inv ha
  obtain rfl := F2.inv0 ha
  have hI : ∀ w', Kp (noB (fun _ => undef)) w w' → Tr w' := fun _ hk => Tr.keep hk.below hG
  have h : rDiv n l0 l1 = some r := hg
  obtain ⟨p0, s0, o0⟩ := aZ_ok hp e0 (k0) 3
  obtain ⟨p1, s1, o1⟩ := aZ_ok hp e1 (k1) 3
  have hR0 := rel0 (gv := (fun _ => undef)) (n := 53) (w := w) (args := [.c (.wh 0), .c (.wh 1)]) (H := [⟨.ro false, 3, 1, l0.length, .z l0⟩, ⟨.ro false, 3, 1, l1.length, .z l1⟩]) (gl := []) (hpL (ps := [p0, p1]) (F2.cons o0 (F2.cons o1 F2.nil))) (allRo_ok rfl) (F2.cons s0 (F2.cons s1 F2.nil)) GlR.nil (by simp)
  clear ha hp hg k0 k1 e0 e1
  refine calls_W Try.func16 rfl rfl hR0 (Q := fun e s => (e = .ret ∨ e = .normal) ∧ s = rDiv_R r) ?_ ?_
  · clear hR0
    unfold rDiv at h
    have hT := tabO_nu
    refine W_seq ?_
    refine W_reg hT ftL_nil [] [] [0, 1] [0, 1] (s' := ⟨[(0, .c (.wh 0)), (1, .c (.wh 1))], [], [⟨(.ro false), 3, 1, l0.length, .z l0⟩, ⟨(.ro false), 3, 1, l1.length, .z l1⟩]⟩) (by kernel_rfl) allP_nil ?_
    refine W_seq ?_
    obtain ⟨g1, h⟩ := gd_some h
    obtain ⟨g2, h⟩ := gd_some h
    obtain ⟨g3, h⟩ := gd_some h
    refine W_reg hT ftL_nil [] [] [0, 1, 6] [0, 1, 2] (s' := ⟨[(0, .c (.wh 0)), (1, .c (.wh 1)), (6, .c (.wh 2))], [], [⟨(.ro false), 3, 1, l0.length, .z l0⟩, ⟨(.ro false), 3, 1, l1.length, .z l1⟩, ⟨.row, 3, 1, ((l0.length : Nat) : Int).toNat, .z (List.replicate (((l0.length : Nat) : Int).toNat) 0)⟩]⟩) (by kernel_rfl) (allP_cons.2 ⟨g1, (allP_cons.2 ⟨g2, (allP_cons.2 ⟨g3, allP_nil⟩)⟩)⟩) ?_
    refine W_seq ?_
    refine W_reg hT ftL_nil [] [] [0, 1, 6, 7] [0, 1, 2] (s' := ⟨[(0, .c (.wh 0)), (1, .c (.wh 1)), (6, .c (.wh 2)), (7, .c (.nils))], [], [⟨(.ro false), 3, 1, l0.length, .z l0⟩, ⟨(.ro false), 3, 1, l1.length, .z l1⟩, ⟨.row, 3, 1, ((l0.length : Nat) : Int).toNat, .z (List.replicate (((l0.length : Nat) : Int).toNat) 0)⟩]⟩) (by kernel_rfl) allP_nil ?_
    refine W_seq ?_
    refine W_seq ?_
    obtain ⟨g4, h⟩ := gd_some h
    refine W_reg hT ftL_nil [] [] [0, 1, 6, 7, 8] [0, 1, 2] (s' := ⟨[(0, .c (.wh 0)), (1, .c (.wh 1)), (6, .c (.wh 2)), (7, .c (.nils)), (8, .c (.s (.k .i64 (((l0.length : Nat) : Int) - 1))))], [], [⟨(.ro false), 3, 1, l0.length, .z l0⟩, ⟨(.ro false), 3, 1, l1.length, .z l1⟩, ⟨.row, 3, 1, ((l0.length : Nat) : Int).toNat, .z (List.replicate (((l0.length : Nat) : Int).toNat) 0)⟩]⟩) (by kernel_rfl) (allP_cons.2 ⟨g4, allP_nil⟩) ?_
    refine W_block ?_
    refine W_co [.emp 7 3 1 (.z []) true] [0, 1, 6, 7, 8] [0, 1, 2, 3] (s' := (rDiv_l1_E l0 l1 (List.replicate (((l0.length : Nat) : Int).toNat) 0) [] 0 (((l0.length : Nat) : Int) - 1))) (by kernel_rfl) (W_lp ((rDiv_l1_P n l0 l1 r)) n (rDiv_l1_M h) ?_)
    rintro fu_l1 _ ⟨z6_5, z7_5, m7_5, i8_1, rfl, h⟩
    cases fu_l1 with
    | zero => cases h
    | succ fu_l1 =>
      refine ⟨fu_l1, rfl, ?_⟩
      rw [rDiv_l1] at h
      refine W_seq ?_
      refine W_seq ?_
      refine W_reg hT ftL_nil [] [] [0, 1, 6, 7, 8, 17] [0, 1, 2, 3] (s' := ⟨[(0, .c (.wh 0)), (1, .c (.wh 1)), (6, .c (.wh 2)), (7, .c (.wh 3)), (8, .c (.s (.k .i64 i8_1))), (17, .c (.s (.b (decide ((0 : Int) ≤ i8_1)))))], [], [⟨(.ro false), 3, 1, l0.length, .z l0⟩, ⟨(.ro false), 3, 1, l1.length, .z l1⟩, ⟨.row, 3, 1, ((l0.length : Nat) : Int).toNat, .z z6_5⟩, ⟨(.ro true), 3, 1, m7_5, .z z7_5⟩]⟩) (by kernel_rfl) allP_nil ?_
      refine W_cond (b := (decide ((0 : Int) ≤ i8_1))) (by kernel_rfl) (fun g21 => ?_) (fun g21 => ?_)
      · replace h := bif_t h g21
        refine W_co [] [0, 1, 6, 7, 8] [0, 1, 2, 3] (s' := ⟨[(0, .c (.wh 0)), (1, .c (.wh 1)), (6, .c (.wh 2)), (7, .c (.wh 3)), (8, .c (.s (.k .i64 i8_1)))], [], [⟨(.ro false), 3, 1, l0.length, .z l0⟩, ⟨(.ro false), 3, 1, l1.length, .z l1⟩, ⟨.row, 3, 1, ((l0.length : Nat) : Int).toNat, .z z6_5⟩, ⟨(.ro true), 3, 1, m7_5, .z z7_5⟩]⟩) (by kernel_rfl) (W_skip ?_)
        refine W_seq ?_
        refine W_block ?_
        refine W_seq ?_
        obtain ⟨g5, h⟩ := gd_some h
        obtain ⟨g6, h⟩ := gd_some h
        obtain ⟨g7, h⟩ := gd_some h
        obtain ⟨r27_2, g8, h⟩ := bind_some' h
        refine W_reg hT (ftL_cons (k := 7) (f := 36) (F := (rtrim_ct n r27_2)) (rtrim_ok n r27_2) (fun _ _ => True.intro) ftL_nil) [] [] [0, 1, 6, 7, 8] [0, 1, 2, 5] (s' := ⟨[(0, .c (.wh 0)), (1, .c (.wh 1)), (6, .c (.wh 2)), (7, .c (.sl 3 0 r27_2.2)), (8, .c (.s (.k .i64 i8_1)))], [], [⟨(.ro false), 3, 1, l0.length, .z l0⟩, ⟨(.ro false), 3, 1, l1.length, .z l1⟩, ⟨.row, 3, 1, ((l0.length : Nat) : Int).toNat, .z z6_5⟩, ⟨.row, 3, 1, ([(l0.getD i8_1.toNat 0)] ++ z7_5).length, .z ([(l0.getD i8_1.toNat 0)] ++ z7_5)⟩]⟩) (by kernel_rfl) (allP_cons.2 ⟨g5, (allP_cons.2 ⟨g6, (allP_cons.2 ⟨g7, (allP_cons.2 ⟨g8, allP_nil⟩)⟩)⟩)⟩) ?_
        refine W_block ?_
        refine W_co [.vw 7 true] [0, 1, 6, 7, 8] [0, 1, 2, 4] (s' := (rDiv_l2_E l0 l1 i8_1 z6_5 ((([(l0.getD i8_1.toNat 0)] ++ z7_5).drop 0).take r27_2.2) r27_2.2)) (by kernel_rfl) (W_lp ((rDiv_l2_P n l0 l1 i8_1 (rDiv_l1 n l0 l1 fu_l1) r)) n (rDiv_l2_M h) ?_)
        rintro fu_l2 _ ⟨z6_7, z7_7, m7_7, rfl, h⟩
        cases fu_l2 with
        | zero => cases h
        | succ fu_l2 =>
          refine ⟨fu_l2, rfl, ?_⟩
          rw [rDiv_l2] at h
          refine W_seq ?_
          refine W_seq ?_
          obtain ⟨r30_8, g9, h⟩ := bind_some' h
          refine W_reg hT (ftL_cons (k := 2) (f := 21) (F := (rCmp_ct n r30_8)) (rCmp_ok n r30_8) (fun _ _ => True.intro) ftL_nil) [] [] [0, 1, 6, 7, 8, 31] [0, 1, 2, 3] (s' := ⟨[(0, .c (.wh 0)), (1, .c (.wh 1)), (6, .c (.wh 2)), (7, .c (.wh 3)), (8, .c (.s (.k .i64 i8_1))), (31, .c (.s (.b (decide ((0 : Int) ≤ r30_8)))))], [], [⟨(.ro false), 3, 1, l0.length, .z l0⟩, ⟨(.ro false), 3, 1, l1.length, .z l1⟩, ⟨.row, 3, 1, ((l0.length : Nat) : Int).toNat, .z z6_7⟩, ⟨(.ro true), 3, 1, m7_7, .z z7_7⟩]⟩) (by kernel_rfl) (allP_cons.2 ⟨g9, allP_nil⟩) ?_
          refine W_cond (b := (decide ((0 : Int) ≤ r30_8))) (by kernel_rfl) (fun g19 => ?_) (fun g19 => ?_)
          · replace h := bif_t h g19
            refine W_co [] [0, 1, 6, 7, 8] [0, 1, 2, 3] (s' := ⟨[(0, .c (.wh 0)), (1, .c (.wh 1)), (6, .c (.wh 2)), (7, .c (.wh 3)), (8, .c (.s (.k .i64 i8_1)))], [], [⟨(.ro false), 3, 1, l0.length, .z l0⟩, ⟨(.ro false), 3, 1, l1.length, .z l1⟩, ⟨.row, 3, 1, ((l0.length : Nat) : Int).toNat, .z z6_7⟩, ⟨(.ro true), 3, 1, m7_7, .z z7_7⟩]⟩) (by kernel_rfl) (W_skip ?_)
            refine W_block ?_
            refine W_seq ?_
            obtain ⟨r34_8, g10, h⟩ := bind_some' h
            refine W_reg hT (ftL_cons (k := 2) (f := 37) (F := (rfit_ct n r34_8)) (rfit_ok n r34_8) (fun _ _ => True.intro) ftL_nil) [] [] [0, 1, 6, 7, 8, 9] [0, 1, 2, 3] (s' := ⟨[(0, .c (.wh 0)), (1, .c (.wh 1)), (6, .c (.wh 2)), (7, .c (.wh 3)), (8, .c (.s (.k .i64 i8_1))), (9, .c (.s (.k .i64 r34_8)))], [], [⟨(.ro false), 3, 1, l0.length, .z l0⟩, ⟨(.ro false), 3, 1, l1.length, .z l1⟩, ⟨.row, 3, 1, ((l0.length : Nat) : Int).toNat, .z z6_7⟩, ⟨(.ro true), 3, 1, m7_7, .z z7_7⟩]⟩) (by kernel_rfl) (allP_cons.2 ⟨g10, allP_nil⟩) ?_
            refine W_seq ?_
            obtain ⟨g11, h⟩ := gd_some h
            obtain ⟨g12, h⟩ := gd_some h
            obtain ⟨g13, h⟩ := gd_some h
            obtain ⟨g14, h⟩ := gd_some h
            obtain ⟨g15, h⟩ := gd_some h
            refine W_reg hT ftL_nil [] [] [0, 1, 6, 7, 8, 9] [0, 1, 2, 3] (s' := ⟨[(0, .c (.wh 0)), (1, .c (.wh 1)), (6, .c (.wh 2)), (7, .c (.wh 3)), (8, .c (.s (.k .i64 i8_1))), (9, .c (.s (.k .i64 r34_8)))], [], [⟨(.ro false), 3, 1, l0.length, .z l0⟩, ⟨(.ro false), 3, 1, l1.length, .z l1⟩, ⟨.row, 3, 1, ((l0.length : Nat) : Int).toNat, .z (z6_7.set i8_1.toNat ((z6_7.getD i8_1.toNat 0) + r34_8))⟩, ⟨(.ro true), 3, 1, m7_7, .z z7_7⟩]⟩) (by kernel_rfl) (allP_cons.2 ⟨g11, (allP_cons.2 ⟨g12, (allP_cons.2 ⟨g13, (allP_cons.2 ⟨g14, (allP_cons.2 ⟨g15, allP_nil⟩)⟩)⟩)⟩)⟩) ?_
            obtain ⟨r48_8, g16, h⟩ := bind_some' h
            obtain ⟨r49_8, g17, h⟩ := bind_some' h
            refine W_reg hT (ftL_cons (k := 4) (f := 24) (F := (rMul_ct n r48_8)) (rMul_ok n r48_8) (fun _ _ => True.intro) (ftL_cons (k := 5) (f := 29) (F := (rSub_ct n r49_8)) (rSub_ok n r49_8) (fun _ _ => True.intro) ftL_nil)) [] [] [0, 1, 6, 7, 8] [0, 1, 2, 6] (s' := (rDiv_l2_E l0 l1 i8_1 (z6_7.set i8_1.toNat ((z6_7.getD i8_1.toNat 0) + r34_8)) r49_8.1 r49_8.2)) (by kernel_rfl) (allP_cons.2 ⟨g16, (allP_cons.2 ⟨g17, allP_nil⟩)⟩) ?_
            exact rDiv_l2_M h
          · replace h := bif_f h g19
            refine W_co [] [0, 1, 6, 7, 8] [0, 1, 2, 3] (s' := ⟨[(0, .c (.wh 0)), (1, .c (.wh 1)), (6, .c (.wh 2)), (7, .c (.wh 3)), (8, .c (.s (.k .i64 i8_1)))], [], [⟨(.ro false), 3, 1, l0.length, .z l0⟩, ⟨(.ro false), 3, 1, l1.length, .z l1⟩, ⟨.row, 3, 1, ((l0.length : Nat) : Int).toNat, .z z6_7⟩, ⟨(.ro true), 3, 1, m7_7, .z z7_7⟩]⟩) (by kernel_rfl) (W_exit ?_)
            obtain ⟨g18, h⟩ := gd_some h
            refine W_reg hT ftL_nil [] [] [0, 1, 6, 7, 8] [0, 1, 2, 3] (s' := (rDiv_l1_E l0 l1 z6_7 z7_7 m7_7 (i8_1 - 1))) (by kernel_rfl) (allP_cons.2 ⟨g18, allP_nil⟩) ?_
            exact rDiv_l1_M h
      · replace h := bif_f h g21
        refine W_co [] [6, 7] [2, 3] (s' := ⟨[(6, .c (.wh 0)), (7, .c (.wh 1))], [], [⟨.row, 3, 1, ((l0.length : Nat) : Int).toNat, .z z6_5⟩, ⟨(.ro true), 3, 1, m7_5, .z z7_5⟩]⟩) (by kernel_rfl) (W_exit ?_)
        refine W_seq ?_
        obtain ⟨r51_1, g20, h⟩ := bind_some' h
        refine W_reg hT (ftL_cons (k := 1) (f := 36) (F := (rtrim_ct n r51_1)) (rtrim_ok n r51_1) (fun _ _ => True.intro) ftL_nil) [] [] [4, 5] [0, 1] (s' := ⟨[(4, .c (.sl 0 0 r51_1.2)), (5, .c (.wh 1))], [], [⟨.row, 3, 1, ((l0.length : Nat) : Int).toNat, .z z6_5⟩, ⟨(.ro true), 3, 1, m7_5, .z z7_5⟩]⟩) (by kernel_rfl) (allP_cons.2 ⟨g20, allP_nil⟩) ?_
        refine W_co [.vw 4 true] [4, 5] [2, 1] (s' := (rDiv_R (((z6_5.drop 0).take r51_1.2), r51_1.2, z7_5, m7_5))) (by kernel_rfl) (W_ret ?_)
        exact ⟨.inl rfl, by cases h; rfl⟩
  · rintro e s' ⟨he, rfl⟩
    refine ⟨he, fun a' w' hr => ?_⟩
    exact retS_ok tabO_nu hr (rs := [.tmp 4, .tmp 5]) rfl (objs := [0, 1]) (by kernel_rfl)
def rTo_j1_E (a0 : List Int) (w3_2 : List UInt32) (i4_2 : Int) (x5_8 : UInt32) : S := ⟨[(0, .c (.wh 0)), (3, .c (.wh 1)), (4, .c (.s (.k .i64 i4_2))), (5, .c (.s (.u32 x5_8)))], [], [⟨(.ro false), 3, 1, a0.length, .z a0⟩, ⟨.row, 45, 1, w3_2.length, .w w3_2⟩]⟩
def rTo_j1_P (n : Nat) (a0 : List Int) (w3_2 : List UInt32) (i4_2 : Int) (k_l1 : (List UInt32) → Int → Option (List UInt32)) (r : List UInt32) : S → Prop := fun s => ∃ (x5_8 : UInt32), s = rTo_j1_E a0 w3_2 i4_2 x5_8 ∧ rTo_j1 n a0 w3_2 i4_2 k_l1 x5_8 = some r
theorem rTo_j1_M {n : Nat} {a0 : List Int} {w3_2 : List UInt32} {i4_2 : Int} {k_l1 : (List UInt32) → Int → Option (List UInt32)} {x5_8 : UInt32} {r : List UInt32} (h : rTo_j1 n a0 w3_2 i4_2 k_l1 x5_8 = some r) : rTo_j1_P n a0 w3_2 i4_2 k_l1 r (rTo_j1_E a0 w3_2 i4_2 x5_8) := ⟨x5_8, rfl, h⟩
def rTo_l1_E (a0 : List Int) (w3_2 : List UInt32) (i4_2 : Int) : S := ⟨[(0, .c (.wh 0)), (3, .c (.wh 1)), (4, .c (.s (.k .i64 i4_2)))], [], [⟨(.ro false), 3, 1, a0.length, .z a0⟩, ⟨.row, 45, 1, w3_2.length, .w w3_2⟩]⟩
def rTo_l1_P (n : Nat) (a0 : List Int) (r : List UInt32) (fu : Nat) : S → Prop := fun s => ∃ (w3_2 : List UInt32), ∃ (i4_2 : Int), s = rTo_l1_E a0 w3_2 i4_2 ∧ rTo_l1 n a0 fu w3_2 i4_2 = some r
theorem rTo_l1_M {n : Nat} {a0 : List Int} {w3_2 : List UInt32} {i4_2 : Int} {r : List UInt32} {fu : Nat} (h : rTo_l1 n a0 fu w3_2 i4_2 = some r) : rTo_l1_P n a0 r fu (rTo_l1_E a0 w3_2 i4_2) := ⟨w3_2, i4_2, rfl, h⟩
def rTo_R (r : List UInt32) : S := ⟨[(2, .c (.wh 0))], [], [⟨.row, 45, 1, r.length, .w r⟩]⟩
def rTo_ct (n : Nat) (r : List UInt32) : Ct := fun args H => match args with
  | [x0] => (match aZ H x0 with | some l0 => some ([rTo n l0 = some r], shA H.length (.c (.wh 0)), shH H.length [⟨.row, 45, 1, r.length, .w r⟩]) | none => none)
  | _ => none
theorem rTo_ok (n : Nat) (r : List UInt32) : FnOk Try.prog Tr 38 (rTo_ct n r) := by
  refine ⟨fun args H g av objs hF hg ρ w vals hG hp ha => ?_, _, Try.func38, by kernel_rfl, by kernel_rfl⟩
  obtain ⟨x0, rfl⟩ : ∃ x0, args = [x0] := by
    unfold rTo_ct at hF; split at hF
    · exact ⟨_, rfl⟩
    · cases hF
  cases e0 : aZ H x0 with
  | none => simp only [rTo_ct, e0, reduceCtorEq] at hF
  | some l0 =>
  simp only [rTo_ct, e0, Option.some.injEq, Prod.mk.injEq] at hF
  obtain ⟨rfl, rfl, rfl⟩ := hF
  obtain ⟨v0, vals, rfl, k0, ha⟩ := F2.inv ha
  obtain rfl := F2.inv0 ha
  have hI : ∀ w', Kp (noB (fun _ => undef)) w w' → Tr w' := fun _ hk => Tr.keep hk.below hG
  have h : rTo n l0 = some r := hg
  obtain ⟨p0, s0, o0⟩ := aZ_ok hp e0 (k0) 3
  have hR0 := rel0 (gv := (fun _ => undef)) (n := 36) (w := w) (args := [.c (.wh 0)]) (H := [⟨.ro false, 3, 1, l0.length, .z l0⟩]) (gl := []) (hpL (ps := [p0]) (F2.cons o0 F2.nil)) (allRo_ok rfl) (F2.cons s0 F2.nil) GlR.nil (by simp)
  clear ha hp hg k0 e0
  refine calls_W Try.func38 rfl rfl hR0 (Q := fun e s => (e = .ret ∨ e = .normal) ∧ s = rTo_R r) ?_ ?_
  · clear hR0
    unfold rTo at h
    have hT := tabO_nu
    refine W_seq ?_
    refine W_reg hT ftL_nil [] [] [0] [0] (s' := ⟨[(0, .c (.wh 0))], [], [⟨(.ro false), 3, 1, l0.length, .z l0⟩]⟩) (by kernel_rfl) allP_nil ?_
    refine W_seq ?_
    refine W_reg hT ftL_nil [] [] [0, 3] [0] (s' := ⟨[(0, .c (.wh 0)), (3, .c (.nils))], [], [⟨(.ro false), 3, 1, l0.length, .z l0⟩]⟩) (by kernel_rfl) allP_nil ?_
    refine W_seq ?_
    refine W_seq ?_
    refine W_reg hT ftL_nil [] [] [0, 3, 4] [0] (s' := ⟨[(0, .c (.wh 0)), (3, .c (.nils)), (4, .c (.s (.k .i64 0)))], [], [⟨(.ro false), 3, 1, l0.length, .z l0⟩]⟩) (by kernel_rfl) allP_nil ?_
    refine W_block ?_
    refine W_co [.nil 3 45 1 (.w [])] [0, 3, 4] [0, 1] (s' := (rTo_l1_E l0 [] 0)) (by kernel_rfl) (W_lp ((rTo_l1_P n l0 r)) n (rTo_l1_M h) ?_)
    rintro fu_l1 _ ⟨w3_2, i4_2, rfl, h⟩
    cases fu_l1 with
    | zero => cases h
    | succ fu_l1 =>
      refine ⟨fu_l1, rfl, ?_⟩
      rw [rTo_l1] at h
      refine W_seq ?_
      refine W_seq ?_
      refine W_reg hT ftL_nil [] [] [0, 3, 4, 9] [0, 1] (s' := ⟨[(0, .c (.wh 0)), (3, .c (.wh 1)), (4, .c (.s (.k .i64 i4_2))), (9, .c (.s (.b (decide (i4_2 < ((l0.length : Nat) : Int))))))], [], [⟨(.ro false), 3, 1, l0.length, .z l0⟩, ⟨.row, 45, 1, w3_2.length, .w w3_2⟩]⟩) (by kernel_rfl) allP_nil ?_
      refine W_cond (b := (decide (i4_2 < ((l0.length : Nat) : Int)))) (by kernel_rfl) (fun g10 => ?_) (fun g10 => ?_)
      · replace h := bif_t h g10
        refine W_co [] [0, 3, 4] [0, 1] (s' := ⟨[(0, .c (.wh 0)), (3, .c (.wh 1)), (4, .c (.s (.k .i64 i4_2)))], [], [⟨(.ro false), 3, 1, l0.length, .z l0⟩, ⟨.row, 45, 1, w3_2.length, .w w3_2⟩]⟩) (by kernel_rfl) (W_skip ?_)
        refine W_seq ?_
        refine W_block ?_
        refine W_seq ?_
        obtain ⟨g1, h⟩ := gd_some h
        obtain ⟨g2, h⟩ := gd_some h
        refine W_reg hT ftL_nil [] [] [0, 3, 4, 5] [0, 1] (s' := ⟨[(0, .c (.wh 0)), (3, .c (.wh 1)), (4, .c (.s (.k .i64 i4_2))), (5, .c (.s (.u32 (UInt32.ofInt (l0.getD i4_2.toNat 0)))))], [], [⟨(.ro false), 3, 1, l0.length, .z l0⟩, ⟨.row, 45, 1, w3_2.length, .w w3_2⟩]⟩) (by kernel_rfl) (allP_cons.2 ⟨g1, (allP_cons.2 ⟨g2, allP_nil⟩)⟩) ?_
        refine W_join (rTo_j1_P n l0 w3_2 i4_2 (rTo_l1 n l0 fu_l1) r) ?_ ?_
        · rintro _ ⟨x5_8, rfl, h⟩
          unfold rTo_j1 at h
          obtain ⟨g3, h⟩ := gd_some h
          refine W_reg hT ftL_nil [] [] [0, 3, 4] [0, 3] (s' := ⟨[(0, .c (.wh 0)), (3, .c (.wh 1)), (4, .c (.s (.k .i64 i4_2)))], [], [⟨(.ro false), 3, 1, l0.length, .z l0⟩, ⟨.row, 45, 1, (w3_2 ++ [x5_8]).length, .w (w3_2 ++ [x5_8])⟩]⟩) (by kernel_rfl) (allP_cons.2 ⟨g3, allP_nil⟩) ?_
          obtain ⟨g4, h⟩ := gd_some h
          refine W_reg hT ftL_nil [] [] [0, 3, 4] [0, 1] (s' := (rTo_l1_E l0 (w3_2 ++ [x5_8]) (i4_2 + 2))) (by kernel_rfl) (allP_cons.2 ⟨g4, allP_nil⟩) ?_
          exact rTo_l1_M h
        · refine W_seq ?_
          obtain ⟨g5, h⟩ := gd_some h
          refine W_reg hT ftL_nil [] [] [0, 3, 4, 5, 21] [0, 1] (s' := ⟨[(0, .c (.wh 0)), (3, .c (.wh 1)), (4, .c (.s (.k .i64 i4_2))), (5, .c (.s (.u32 (UInt32.ofInt (l0.getD i4_2.toNat 0))))), (21, .c (.s (.b (decide ((i4_2 + 1) < ((l0.length : Nat) : Int))))))], [], [⟨(.ro false), 3, 1, l0.length, .z l0⟩, ⟨.row, 45, 1, w3_2.length, .w w3_2⟩]⟩) (by kernel_rfl) (allP_cons.2 ⟨g5, allP_nil⟩) ?_
          refine W_cond (b := (decide ((i4_2 + 1) < ((l0.length : Nat) : Int)))) (by kernel_rfl) (fun g9 => ?_) (fun g9 => ?_)
          · replace h := bif_t h g9
            obtain ⟨g6, h⟩ := gd_some h
            obtain ⟨g7, h⟩ := gd_some h
            obtain ⟨g8, h⟩ := gd_some h
            refine W_reg hT ftL_nil [] [] [0, 3, 4, 5] [0, 1] (s' := (rTo_j1_E l0 w3_2 i4_2 ((UInt32.ofInt (l0.getD i4_2.toNat 0)) + ((UInt32.ofInt (l0.getD ((i4_2 + 1).toNat) 0)) * (65536 : UInt32))))) (by kernel_rfl) (allP_cons.2 ⟨g6, (allP_cons.2 ⟨g7, (allP_cons.2 ⟨g8, allP_nil⟩)⟩)⟩) ?_
            exact rTo_j1_M h
          · replace h := bif_f h g9
            refine W_co [] [0, 3, 4, 5] [0, 1] (s' := (rTo_j1_E l0 w3_2 i4_2 (UInt32.ofInt (l0.getD i4_2.toNat 0)))) (by kernel_rfl) (W_skip ?_)
            exact rTo_j1_M h
      · replace h := bif_f h g10
        refine W_co [] [3] [1] (s' := ⟨[(3, .c (.wh 0))], [], [⟨.row, 45, 1, w3_2.length, .w w3_2⟩]⟩) (by kernel_rfl) (W_exit ?_)
        refine W_seq ?_
        refine W_reg hT ftL_nil [] [] [2] [0] (s' := ⟨[(2, .c (.wh 0))], [], [⟨.row, 45, 1, w3_2.length, .w w3_2⟩]⟩) (by kernel_rfl) allP_nil ?_
        refine W_co [] [2] [0] (s' := (rTo_R w3_2)) (by kernel_rfl) (W_ret ?_)
        exact ⟨.inl rfl, by cases h; rfl⟩
  · rintro e s' ⟨he, rfl⟩
    refine ⟨he, fun a' w' hr => ?_⟩
    exact retS_ok tabO_nu hr (rs := [.tmp 2]) rfl (objs := [0]) (by kernel_rfl)
def rSame_l1_E (a0 : List UInt32) (r8 : List UInt32) (i6_2 : Int) : S := ⟨[(0, .c (.wh 0)), (5, .c (.wh 1)), (6, .c (.s (.k .i64 i6_2)))], [], [⟨(.ro false), 45, 1, a0.length, .w a0⟩, ⟨.row, 45, 1, r8.length, .w r8⟩]⟩
def rSame_l1_P (n : Nat) (a0 : List UInt32) (r8 : List UInt32) (r : Bool) (fu : Nat) : S → Prop := fun s => ∃ (i6_2 : Int), s = rSame_l1_E a0 r8 i6_2 ∧ rSame_l1 n a0 r8 fu i6_2 = some r
theorem rSame_l1_M {n : Nat} {a0 : List UInt32} {r8 : List UInt32} {i6_2 : Int} {r : Bool} {fu : Nat} (h : rSame_l1 n a0 r8 fu i6_2 = some r) : rSame_l1_P n a0 r8 r fu (rSame_l1_E a0 r8 i6_2) := ⟨i6_2, rfl, h⟩
def rSame_R (r : Bool) : S := ⟨[(4, .c (.s (.b r)))], [], []⟩
def rSame_ct (n : Nat) (r : Bool) : Ct := fun args H => match args with
  | [x0, x1] => (match aW H x0 with | some l0 => (match aZ H x1 with | some l1 => some ([rSame n l0 l1 = some r], shA H.length (.c (.s (.b r))), shH H.length []) | none => none) | none => none)
  | _ => none
theorem rSame_ok (n : Nat) (r : Bool) : FnOk Try.prog Tr 17 (rSame_ct n r) := by
  refine ⟨fun args H g av objs hF hg ρ w vals hG hp ha => ?_, _, Try.func17, by kernel_rfl, by kernel_rfl⟩
  obtain ⟨x0, x1, rfl⟩ : ∃ x0 x1, args = [x0, x1] := by
    unfold rSame_ct at hF; split at hF
    · exact ⟨_, _, rfl⟩
    · cases hF
  cases e0 : aW H x0 with
  | none => simp only [rSame_ct, e0, reduceCtorEq] at hF
  | some l0 =>
  cases e1 : aZ H x1 with
  | none => simp only [rSame_ct, e0, e1, reduceCtorEq] at hF
  | some l1 =>
  simp only [rSame_ct, e0, e1, Option.some.injEq, Prod.mk.injEq] at hF
  obtain ⟨rfl, rfl, rfl⟩ := hF
  obtain ⟨v0, vals, rfl, k0, ha⟩ := F2.inv ha
  obtain ⟨v1, vals, rfl, k1, ha⟩ := F2.inv ha
  obtain rfl := F2.inv0 ha
  have hI : ∀ w', Kp (noB (fun _ => undef)) w w' → Tr w' := fun _ hk => Tr.keep hk.below hG
  have h : rSame n l0 l1 = some r := hg
  obtain ⟨p0, s0, o0⟩ := aW_ok hp e0 (k0) 45
  obtain ⟨p1, s1, o1⟩ := aZ_ok hp e1 (k1) 3
  have hR0 := rel0 (gv := (fun _ => undef)) (n := 29) (w := w) (args := [.c (.wh 0), .c (.wh 1)]) (H := [⟨.ro false, 45, 1, l0.length, .w l0⟩, ⟨.ro false, 3, 1, l1.length, .z l1⟩]) (gl := []) (hpL (ps := [p0, p1]) (F2.cons o0 (F2.cons o1 F2.nil))) (allRo_ok rfl) (F2.cons s0 (F2.cons s1 F2.nil)) GlR.nil (by simp)
  clear ha hp hg k0 k1 e0 e1
  refine calls_W Try.func17 rfl rfl hR0 (Q := fun e s => (e = .ret ∨ e = .normal) ∧ s = rSame_R r) ?_ ?_
  · clear hR0
    unfold rSame at h
    have hT := tabO_nu
    refine W_seq ?_
    refine W_reg hT ftL_nil [] [] [0, 1] [0, 1] (s' := ⟨[(0, .c (.wh 0)), (1, .c (.wh 1))], [], [⟨(.ro false), 45, 1, l0.length, .w l0⟩, ⟨(.ro false), 3, 1, l1.length, .z l1⟩]⟩) (by kernel_rfl) allP_nil ?_
    refine W_seq ?_
    obtain ⟨r8, g1, h⟩ := bind_some' h
    refine W_reg hT (ftL_cons (k := 1) (f := 38) (F := (rTo_ct n r8)) (rTo_ok n r8) (fun _ _ => True.intro) ftL_nil) [] [] [0, 5] [0, 2] (s' := ⟨[(0, .c (.wh 0)), (5, .c (.wh 1))], [], [⟨(.ro false), 45, 1, l0.length, .w l0⟩, ⟨.row, 45, 1, r8.length, .w r8⟩]⟩) (by kernel_rfl) (allP_cons.2 ⟨g1, allP_nil⟩) ?_
    refine W_seq ?_
    refine W_seq ?_
    refine W_reg hT ftL_nil [] [] [0, 5, 13] [0, 1] (s' := ⟨[(0, .c (.wh 0)), (5, .c (.wh 1)), (13, .c (.s (.b (((l0.length : Nat) : Int) != ((r8.length : Nat) : Int)))))], [], [⟨(.ro false), 45, 1, l0.length, .w l0⟩, ⟨.row, 45, 1, r8.length, .w r8⟩]⟩) (by kernel_rfl) allP_nil ?_
    refine W_cond (b := (((l0.length : Nat) : Int) != ((r8.length : Nat) : Int))) (by kernel_rfl) (fun g9 => ?_) (fun g9 => ?_)
    · replace h := bif_t h g9
      refine W_seq ?_
      refine W_reg hT ftL_nil [] [] [4] [] (s' := ⟨[(4, .c (.s (.b false)))], [], []⟩) (by kernel_rfl) allP_nil ?_
      refine W_co [] [4] [] (s' := (rSame_R false)) (by kernel_rfl) (W_ret ?_)
      exact ⟨.inl rfl, by cases h; rfl⟩
    · replace h := bif_f h g9
      refine W_co [] [0, 5] [0, 1] (s' := ⟨[(0, .c (.wh 0)), (5, .c (.wh 1))], [], [⟨(.ro false), 45, 1, l0.length, .w l0⟩, ⟨.row, 45, 1, r8.length, .w r8⟩]⟩) (by kernel_rfl) (W_skip ?_)
      refine W_seq ?_
      refine W_seq ?_
      refine W_reg hT ftL_nil [] [] [0, 5, 6] [0, 1] (s' := ⟨[(0, .c (.wh 0)), (5, .c (.wh 1)), (6, .c (.s (.k .i64 0)))], [], [⟨(.ro false), 45, 1, l0.length, .w l0⟩, ⟨.row, 45, 1, r8.length, .w r8⟩]⟩) (by kernel_rfl) allP_nil ?_
      refine W_block ?_
      refine W_co [] [0, 5, 6] [0, 1] (s' := (rSame_l1_E l0 r8 0)) (by kernel_rfl) (W_lp ((rSame_l1_P n l0 r8 r)) n (rSame_l1_M h) ?_)
      rintro fu_l1 _ ⟨i6_2, rfl, h⟩
      cases fu_l1 with
      | zero => cases h
      | succ fu_l1 =>
        refine ⟨fu_l1, rfl, ?_⟩
        rw [rSame_l1] at h
        refine W_seq ?_
        refine W_seq ?_
        refine W_reg hT ftL_nil [] [] [0, 5, 6, 17] [0, 1] (s' := ⟨[(0, .c (.wh 0)), (5, .c (.wh 1)), (6, .c (.s (.k .i64 i6_2))), (17, .c (.s (.b (decide (i6_2 < ((l0.length : Nat) : Int))))))], [], [⟨(.ro false), 45, 1, l0.length, .w l0⟩, ⟨.row, 45, 1, r8.length, .w r8⟩]⟩) (by kernel_rfl) allP_nil ?_
        refine W_cond (b := (decide (i6_2 < ((l0.length : Nat) : Int)))) (by kernel_rfl) (fun g8 => ?_) (fun g8 => ?_)
        · replace h := bif_t h g8
          refine W_co [] [0, 5, 6] [0, 1] (s' := ⟨[(0, .c (.wh 0)), (5, .c (.wh 1)), (6, .c (.s (.k .i64 i6_2)))], [], [⟨(.ro false), 45, 1, l0.length, .w l0⟩, ⟨.row, 45, 1, r8.length, .w r8⟩]⟩) (by kernel_rfl) (W_skip ?_)
          refine W_seq ?_
          refine W_block ?_
          refine W_seq ?_
          obtain ⟨g2, h⟩ := gd_some h
          obtain ⟨g3, h⟩ := gd_some h
          obtain ⟨g4, h⟩ := gd_some h
          obtain ⟨g5, h⟩ := gd_some h
          refine W_regD hT ftL_nil (by kernel_rfl) 8 [] [(0, false), (5, false), (6, false), (23, false), (27, false)] [] [0, 5, 6, 28] [0, 1] (s' := ⟨[(0, .c (.wh 0)), (5, .c (.wh 1)), (6, .c (.s (.k .i64 i6_2))), (28, .c (.s (.b ((l0.getD i6_2.toNat 0) != (r8.getD i6_2.toNat 0)))))], [], [⟨(.ro false), 45, 1, l0.length, .w l0⟩, ⟨.row, 45, 1, r8.length, .w r8⟩]⟩) (by kernel_rfl) (by kernel_rfl) (allP_cons.2 ⟨g2, (allP_cons.2 ⟨g3, (allP_cons.2 ⟨g4, (allP_cons.2 ⟨g5, allP_nil⟩)⟩)⟩)⟩) ?_
          refine W_cond (b := ((l0.getD i6_2.toNat 0) != (r8.getD i6_2.toNat 0))) (by kernel_rfl) (fun g7 => ?_) (fun g7 => ?_)
          · replace h := bif_t h g7
            refine W_seq ?_
            refine W_reg hT ftL_nil [] [] [4] [] (s' := ⟨[(4, .c (.s (.b false)))], [], []⟩) (by kernel_rfl) allP_nil ?_
            refine W_co [] [4] [] (s' := (rSame_R false)) (by kernel_rfl) (W_ret ?_)
            exact ⟨.inl rfl, by cases h; rfl⟩
          · replace h := bif_f h g7
            refine W_co [] [0, 5, 6] [0, 1] (s' := ⟨[(0, .c (.wh 0)), (5, .c (.wh 1)), (6, .c (.s (.k .i64 i6_2)))], [], [⟨(.ro false), 45, 1, l0.length, .w l0⟩, ⟨.row, 45, 1, r8.length, .w r8⟩]⟩) (by kernel_rfl) (W_skip ?_)
            obtain ⟨g6, h⟩ := gd_some h
            refine W_reg hT ftL_nil [] [] [0, 5, 6] [0, 1] (s' := (rSame_l1_E l0 r8 (i6_2 + 1))) (by kernel_rfl) (allP_cons.2 ⟨g6, allP_nil⟩) ?_
            exact rSame_l1_M h
        · replace h := bif_f h g8
          refine W_co [] [] [] (s' := ⟨[], [], []⟩) (by kernel_rfl) (W_exit ?_)
          refine W_seq ?_
          refine W_reg hT ftL_nil [] [] [4] [] (s' := ⟨[(4, .c (.s (.b true)))], [], []⟩) (by kernel_rfl) allP_nil ?_
          refine W_co [] [4] [] (s' := (rSame_R true)) (by kernel_rfl) (W_ret ?_)
          exact ⟨.inl rfl, by cases h; rfl⟩
  · rintro e s' ⟨he, rfl⟩
    refine ⟨he, fun a' w' hr => ?_⟩
    exact retS_ok tabO_nu hr (rs := [.tmp 4]) rfl (objs := []) (by kernel_rfl)
def rRest_R (r : List Int × Nat) : S := ⟨[(4, .c (.wh 0))], [], [⟨(.ro true), 3, 1, r.2, .z r.1⟩]⟩
def rRest_ct (n : Nat) (r : List Int × Nat) : Ct := fun args H => match args with
  | [x0, x1] => (match aZ H x0 with | some l0 => (match aZ H x1 with | some l1 => some ([rRest n l0 l1 = some r], shA H.length (.c (.wh 0)), shH H.length [⟨(.ro true), 3, 1, r.2, .z r.1⟩]) | none => none) | none => none)
  | _ => none
theorem rRest_ok (n : Nat) (r : List Int × Nat) : FnOk Try.prog Tr 23 (rRest_ct n r) := by
  refine ⟨fun args H g av objs hF hg ρ w vals hG hp ha => ?_, _, Try.func23, by kernel_rfl, by kernel_rfl⟩
  obtain ⟨x0, x1, rfl⟩ : ∃ x0 x1, args = [x0, x1] := by
    unfold rRest_ct at hF; split at hF
    · exact ⟨_, _, rfl⟩
    · cases hF
  cases e0 : aZ H x0 with
  | none => simp only [rRest_ct, e0, reduceCtorEq] at hF
  | some l0 =>
  cases e1 : aZ H x1 with
  | none => simp only [rRest_ct, e0, e1, reduceCtorEq] at hF
  | some l1 =>
  simp only [rRest_ct, e0, e1, Option.some.injEq, Prod.mk.injEq] at hF
  obtain ⟨rfl, rfl, rfl⟩ := hF
  obtain ⟨v0, vals, rfl, k0, ha⟩ := F2.inv ha
  obtain ⟨v1, vals, rfl, k1, ha⟩ := F2.inv ha
  obtain rfl := F2.inv0 ha
  have hI : ∀ w', Kp (noB (fun _ => undef)) w w' → Tr w' := fun _ hk => Tr.keep hk.below hG
  have h : rRest n l0 l1 = some r := hg
  obtain ⟨p0, s0, o0⟩ := aZ_ok hp e0 (k0) 3
  obtain ⟨p1, s1, o1⟩ := aZ_ok hp e1 (k1) 3
  have hR0 := rel0 (gv := (fun _ => undef)) (n := 14) (w := w) (args := [.c (.wh 0), .c (.wh 1)]) (H := [⟨.ro false, 3, 1, l0.length, .z l0⟩, ⟨.ro false, 3, 1, l1.length, .z l1⟩]) (gl := []) (hpL (ps := [p0, p1]) (F2.cons o0 (F2.cons o1 F2.nil))) (allRo_ok rfl) (F2.cons s0 (F2.cons s1 F2.nil)) GlR.nil (by simp)
  clear ha hp hg k0 k1 e0 e1
  refine calls_W Try.func23 rfl rfl hR0 (Q := fun e s => (e = .ret ∨ e = .normal) ∧ s = rRest_R r) ?_ ?_
  · clear hR0
    unfold rRest at h
    have hT := tabO_nu
    refine W_seq ?_
    refine W_reg hT ftL_nil [] [] [0, 1] [0, 1] (s' := ⟨[(0, .c (.wh 0)), (1, .c (.wh 1))], [], [⟨(.ro false), 3, 1, l0.length, .z l0⟩, ⟨(.ro false), 3, 1, l1.length, .z l1⟩]⟩) (by kernel_rfl) allP_nil ?_
    refine W_seq ?_
    obtain ⟨r10, g1, h⟩ := bind_some' h
    refine W_reg hT (ftL_cons (k := 2) (f := 16) (F := (rDiv_ct n r10)) (rDiv_ok n r10) (fun _ _ => True.intro) ftL_nil) [] [] [6] [3] (s' := ⟨[(6, .c (.wh 0))], [], [⟨(.ro true), 3, 1, r10.2.2.2, .z r10.2.2.1⟩]⟩) (by kernel_rfl) (allP_cons.2 ⟨g1, allP_nil⟩) ?_
    refine W_seq ?_
    refine W_reg hT ftL_nil [] [] [4] [0] (s' := ⟨[(4, .c (.wh 0))], [], [⟨(.ro true), 3, 1, r10.2.2.2, .z r10.2.2.1⟩]⟩) (by kernel_rfl) allP_nil ?_
    refine W_co [] [4] [0] (s' := (rRest_R (r10.2.2.1, r10.2.2.2))) (by kernel_rfl) (W_ret ?_)
    exact ⟨.inl rfl, by cases h; rfl⟩
  · rintro e s' ⟨he, rfl⟩
    refine ⟨he, fun a' w' hr => ?_⟩
    exact retS_ok tabO_nu hr (rs := [.tmp 4]) rfl (objs := [0]) (by kernel_rfl)
def rExp_j1_E (a1 : List Int) (a2 : List Int) (r15 : List Int × Nat) (i9_2 : Int) (z7_11 : List Int) (m7_11 : Nat) : S := ⟨[(1, .c (.wh 0)), (2, .c (.wh 1)), (7, .c (.wh 2)), (8, .c (.wh 3)), (9, .c (.s (.k .i64 i9_2)))], [], [⟨(.ro false), 3, 1, a1.length, .z a1⟩, ⟨(.ro false), 3, 1, a2.length, .z a2⟩, ⟨(.ro true), 3, 1, m7_11, .z z7_11⟩, ⟨(.ro true), 3, 1, r15.2, .z r15.1⟩]⟩
def rExp_j1_P (n : Nat) (a1 : List Int) (a2 : List Int) (r15 : List Int × Nat) (i9_2 : Int) (k_l1 : (List Int) → Nat → Int → Option (List Int × Nat)) (r : List Int × Nat) : S → Prop := fun s => ∃ (z7_11 : List Int), ∃ (m7_11 : Nat), s = rExp_j1_E a1 a2 r15 i9_2 z7_11 m7_11 ∧ rExp_j1 n a1 a2 r15 i9_2 k_l1 z7_11 m7_11 = some r
theorem rExp_j1_M {n : Nat} {a1 : List Int} {a2 : List Int} {r15 : List Int × Nat} {i9_2 : Int} {k_l1 : (List Int) → Nat → Int → Option (List Int × Nat)} {z7_11 : List Int} {m7_11 : Nat} {r : List Int × Nat} (h : rExp_j1 n a1 a2 r15 i9_2 k_l1 z7_11 m7_11 = some r) : rExp_j1_P n a1 a2 r15 i9_2 k_l1 r (rExp_j1_E a1 a2 r15 i9_2 z7_11 m7_11) := ⟨z7_11, m7_11, rfl, h⟩
def rExp_l1_E (a1 : List Int) (a2 : List Int) (r15 : List Int × Nat) (z7_9 : List Int) (m7_9 : Nat) (i9_2 : Int) : S := ⟨[(1, .c (.wh 0)), (2, .c (.wh 1)), (7, .c (.wh 2)), (8, .c (.wh 3)), (9, .c (.s (.k .i64 i9_2)))], [], [⟨(.ro false), 3, 1, a1.length, .z a1⟩, ⟨(.ro false), 3, 1, a2.length, .z a2⟩, ⟨(.ro true), 3, 1, m7_9, .z z7_9⟩, ⟨(.ro true), 3, 1, r15.2, .z r15.1⟩]⟩
def rExp_l1_P (n : Nat) (a1 : List Int) (a2 : List Int) (r15 : List Int × Nat) (r : List Int × Nat) (fu : Nat) : S → Prop := fun s => ∃ (z7_9 : List Int), ∃ (m7_9 : Nat), ∃ (i9_2 : Int), s = rExp_l1_E a1 a2 r15 z7_9 m7_9 i9_2 ∧ rExp_l1 n a1 a2 r15 fu z7_9 m7_9 i9_2 = some r
theorem rExp_l1_M {n : Nat} {a1 : List Int} {a2 : List Int} {r15 : List Int × Nat} {z7_9 : List Int} {m7_9 : Nat} {i9_2 : Int} {r : List Int × Nat} {fu : Nat} (h : rExp_l1 n a1 a2 r15 fu z7_9 m7_9 i9_2 = some r) : rExp_l1_P n a1 a2 r15 r fu (rExp_l1_E a1 a2 r15 z7_9 m7_9 i9_2) := ⟨z7_9, m7_9, i9_2, rfl, h⟩
def rExp_R (r : List Int × Nat) : S := ⟨[(6, .c (.wh 0))], [], [⟨(.ro true), 3, 1, r.2, .z r.1⟩]⟩
def rExp_ct (n : Nat) (r : List Int × Nat) : Ct := fun args H => match args with
  | [x0, x1, x2] => (match aZ H x0 with | some l0 => (match aZ H x1 with | some l1 => (match aZ H x2 with | some l2 => some ([rExp n l0 l1 l2 = some r], shA H.length (.c (.wh 0)), shH H.length [⟨(.ro true), 3, 1, r.2, .z r.1⟩]) | none => none) | none => none) | none => none)
  | _ => none
theorem rExp_ok (n : Nat) (r : List Int × Nat) : FnOk Try.prog Tr 19 (rExp_ct n r) := by
  refine ⟨fun args H g av objs hF hg ρ w vals hG hp ha => ?_, _, Try.func19, by kernel_rfl, by kernel_rfl⟩
  obtain ⟨x0, x1, x2, rfl⟩ : ∃ x0 x1 x2, args = [x0, x1, x2] := by
    unfold rExp_ct at hF; split at hF
    · exact ⟨_, _, _, rfl⟩
    · cases hF
  cases e0 : aZ H x0 with
  | none => simp only [rExp_ct, e0, reduceCtorEq] at hF
  | some l0 =>
  cases e1 : aZ H x1 with
  | none => simp only [rExp_ct, e0, e1, reduceCtorEq] at hF
  | some l1 =>
  cases e2 : aZ H x2 with
  | none => simp only [rExp_ct, e0, e1, e2, reduceCtorEq] at hF
  | some l2 =>
  simp only [rExp_ct, e0, e1, e2, Option.some.injEq, Prod.mk.injEq] at hF
  obtain ⟨rfl, rfl, rfl⟩ := hF
  obtain ⟨v0, vals, rfl, k0, ha⟩ := F2.inv ha
  obtain ⟨v1, vals, rfl, k1, ha⟩ := F2.inv ha
  obtain ⟨v2, vals, rfl, k2, ha⟩ := F2.inv ha
  obtain rfl := F2.inv0 ha
  have hI : ∀ w', Kp (noB (fun _ => undef)) w w' → Tr w' := fun _ hk => Tr.keep hk.below hG
  have h : rExp n l0 l1 l2 = some r := hg
  obtain ⟨p0, s0, o0⟩ := aZ_ok hp e0 (k0) 3
  obtain ⟨p1, s1, o1⟩ := aZ_ok hp e1 (k1) 3
  obtain ⟨p2, s2, o2⟩ := aZ_ok hp e2 (k2) 3
  have hR0 := rel0 (gv := (fun _ => undef)) (n := 45) (w := w) (args := [.c (.wh 0), .c (.wh 1), .c (.wh 2)]) (H := [⟨.ro false, 3, 1, l0.length, .z l0⟩, ⟨.ro false, 3, 1, l1.length, .z l1⟩, ⟨.ro false, 3, 1, l2.length, .z l2⟩]) (gl := []) (hpL (ps := [p0, p1, p2]) (F2.cons o0 (F2.cons o1 (F2.cons o2 F2.nil)))) (allRo_ok rfl) (F2.cons s0 (F2.cons s1 (F2.cons s2 F2.nil))) GlR.nil (by simp)
  clear ha hp hg k0 k1 k2 e0 e1 e2
  refine calls_W Try.func19 rfl rfl hR0 (Q := fun e s => (e = .ret ∨ e = .normal) ∧ s = rExp_R r) ?_ ?_
  · clear hR0
    unfold rExp at h
    have hT := tabO_nu
    refine W_seq ?_
    refine W_reg hT ftL_nil [] [] [0, 1, 2] [0, 1, 2] (s' := ⟨[(0, .c (.wh 0)), (1, .c (.wh 1)), (2, .c (.wh 2))], [], [⟨(.ro false), 3, 1, l0.length, .z l0⟩, ⟨(.ro false), 3, 1, l1.length, .z l1⟩, ⟨(.ro false), 3, 1, l2.length, .z l2⟩]⟩) (by kernel_rfl) allP_nil ?_
    refine W_seq ?_
    obtain ⟨r12, g1, h⟩ := bind_some' h
    refine W_reg hT (ftL_cons (k := 2) (f := 23) (F := (rRest_ct n r12)) (rRest_ok n r12) (fun _ _ => True.intro) ftL_nil) [] [] [0, 1, 2, 7] [0, 1, 2, 4] (s' := ⟨[(0, .c (.wh 0)), (1, .c (.wh 1)), (2, .c (.wh 2)), (7, .c (.wh 3))], [], [⟨(.ro false), 3, 1, l0.length, .z l0⟩, ⟨(.ro false), 3, 1, l1.length, .z l1⟩, ⟨(.ro false), 3, 1, l2.length, .z l2⟩, ⟨(.ro true), 3, 1, r12.2, .z r12.1⟩]⟩) (by kernel_rfl) (allP_cons.2 ⟨g1, allP_nil⟩) ?_
    refine W_seq ?_
    obtain ⟨r15, g2, h⟩ := bind_some' h
    refine W_reg hT (ftL_cons (k := 2) (f := 23) (F := (rRest_ct n r15)) (rRest_ok n r15) (fun _ _ => True.intro) ftL_nil) [] [] [1, 2, 7, 8] [1, 2, 3, 4] (s' := ⟨[(1, .c (.wh 0)), (2, .c (.wh 1)), (7, .c (.wh 2)), (8, .c (.wh 3))], [], [⟨(.ro false), 3, 1, l1.length, .z l1⟩, ⟨(.ro false), 3, 1, l2.length, .z l2⟩, ⟨(.ro true), 3, 1, r12.2, .z r12.1⟩, ⟨(.ro true), 3, 1, r15.2, .z r15.1⟩]⟩) (by kernel_rfl) (allP_cons.2 ⟨g2, allP_nil⟩) ?_
    refine W_seq ?_
    refine W_seq ?_
    obtain ⟨g3, h⟩ := gd_some h
    obtain ⟨g4, h⟩ := gd_some h
    refine W_reg hT ftL_nil [] [] [1, 2, 7, 8, 9] [0, 1, 2, 3] (s' := ⟨[(1, .c (.wh 0)), (2, .c (.wh 1)), (7, .c (.wh 2)), (8, .c (.wh 3)), (9, .c (.s (.k .i64 ((16 * ((l1.length : Nat) : Int)) - 1))))], [], [⟨(.ro false), 3, 1, l1.length, .z l1⟩, ⟨(.ro false), 3, 1, l2.length, .z l2⟩, ⟨(.ro true), 3, 1, r12.2, .z r12.1⟩, ⟨(.ro true), 3, 1, r15.2, .z r15.1⟩]⟩) (by kernel_rfl) (allP_cons.2 ⟨g3, (allP_cons.2 ⟨g4, allP_nil⟩)⟩) ?_
    refine W_block ?_
    refine W_co [] [1, 2, 7, 8, 9] [0, 1, 2, 3] (s' := (rExp_l1_E l1 l2 r15 r12.1 r12.2 ((16 * ((l1.length : Nat) : Int)) - 1))) (by kernel_rfl) (W_lp ((rExp_l1_P n l1 l2 r15 r)) n (rExp_l1_M h) ?_)
    rintro fu_l1 _ ⟨z7_9, m7_9, i9_2, rfl, h⟩
    cases fu_l1 with
    | zero => cases h
    | succ fu_l1 =>
      refine ⟨fu_l1, rfl, ?_⟩
      rw [rExp_l1] at h
      refine W_seq ?_
      refine W_seq ?_
      refine W_reg hT ftL_nil [] [] [1, 2, 7, 8, 9, 21] [0, 1, 2, 3] (s' := ⟨[(1, .c (.wh 0)), (2, .c (.wh 1)), (7, .c (.wh 2)), (8, .c (.wh 3)), (9, .c (.s (.k .i64 i9_2))), (21, .c (.s (.b (decide ((0 : Int) ≤ i9_2)))))], [], [⟨(.ro false), 3, 1, l1.length, .z l1⟩, ⟨(.ro false), 3, 1, l2.length, .z l2⟩, ⟨(.ro true), 3, 1, m7_9, .z z7_9⟩, ⟨(.ro true), 3, 1, r15.2, .z r15.1⟩]⟩) (by kernel_rfl) allP_nil ?_
      refine W_cond (b := (decide ((0 : Int) ≤ i9_2))) (by kernel_rfl) (fun g18 => ?_) (fun g18 => ?_)
      · replace h := bif_t h g18
        refine W_co [] [1, 2, 7, 8, 9] [0, 1, 2, 3] (s' := ⟨[(1, .c (.wh 0)), (2, .c (.wh 1)), (7, .c (.wh 2)), (8, .c (.wh 3)), (9, .c (.s (.k .i64 i9_2)))], [], [⟨(.ro false), 3, 1, l1.length, .z l1⟩, ⟨(.ro false), 3, 1, l2.length, .z l2⟩, ⟨(.ro true), 3, 1, m7_9, .z z7_9⟩, ⟨(.ro true), 3, 1, r15.2, .z r15.1⟩]⟩) (by kernel_rfl) (W_skip ?_)
        refine W_join (rExp_j1_P n l1 l2 r15 i9_2 (rExp_l1 n l1 l2 r15 fu_l1) r) ?_ ?_
        · rintro _ ⟨z7_11, m7_11, rfl, h⟩
          unfold rExp_j1 at h
          obtain ⟨g5, h⟩ := gd_some h
          refine W_reg hT ftL_nil [] [] [1, 2, 7, 8, 9] [0, 1, 2, 3] (s' := (rExp_l1_E l1 l2 r15 z7_11 m7_11 (i9_2 - 1))) (by kernel_rfl) (allP_cons.2 ⟨g5, allP_nil⟩) ?_
          exact rExp_l1_M h
        · refine W_block ?_
          refine W_seq ?_
          obtain ⟨r26_3, g6, h⟩ := bind_some' h
          obtain ⟨r28_3, g7, h⟩ := bind_some' h
          refine W_reg hT (ftL_cons (k := 2) (f := 24) (F := (rMul_ct n r26_3)) (rMul_ok n r26_3) (fun _ _ => True.intro) (ftL_cons (k := 4) (f := 23) (F := (rRest_ct n r28_3)) (rRest_ok n r28_3) (fun _ _ => True.intro) ftL_nil)) [] [] [1, 2, 7, 8, 9] [0, 1, 5, 3] (s' := ⟨[(1, .c (.wh 0)), (2, .c (.wh 1)), (7, .c (.wh 2)), (8, .c (.wh 3)), (9, .c (.s (.k .i64 i9_2)))], [], [⟨(.ro false), 3, 1, l1.length, .z l1⟩, ⟨(.ro false), 3, 1, l2.length, .z l2⟩, ⟨(.ro true), 3, 1, r28_3.2, .z r28_3.1⟩, ⟨(.ro true), 3, 1, r15.2, .z r15.1⟩]⟩) (by kernel_rfl) (allP_cons.2 ⟨g6, (allP_cons.2 ⟨g7, allP_nil⟩)⟩) ?_
          refine W_seq ?_
          obtain ⟨g8, h⟩ := gd_some h
          obtain ⟨g9, h⟩ := gd_some h
          obtain ⟨g10, h⟩ := gd_some h
          obtain ⟨g11, h⟩ := gd_some h
          obtain ⟨g12, h⟩ := gd_some h
          obtain ⟨g13, h⟩ := gd_some h
          obtain ⟨g14, h⟩ := gd_some h
          refine W_reg hT ftL_nil [] [] [1, 2, 7, 8, 9, 38] [0, 1, 2, 3] (s' := ⟨[(1, .c (.wh 0)), (2, .c (.wh 1)), (7, .c (.wh 2)), (8, .c (.wh 3)), (9, .c (.s (.k .i64 i9_2))), (38, .c (.s (.b ((bitI .and .i64 ((l1.getD ((Int.tdiv i9_2 16).toNat) 0) / 2 ^ ((Int.tmod i9_2 16).toNat)) 1) == 1))))], [], [⟨(.ro false), 3, 1, l1.length, .z l1⟩, ⟨(.ro false), 3, 1, l2.length, .z l2⟩, ⟨(.ro true), 3, 1, r28_3.2, .z r28_3.1⟩, ⟨(.ro true), 3, 1, r15.2, .z r15.1⟩]⟩) (by kernel_rfl) (allP_cons.2 ⟨g8, (allP_cons.2 ⟨g9, (allP_cons.2 ⟨g10, (allP_cons.2 ⟨g11, (allP_cons.2 ⟨g12, (allP_cons.2 ⟨g13, (allP_cons.2 ⟨g14, allP_nil⟩)⟩)⟩)⟩)⟩)⟩)⟩) ?_
          refine W_cond (b := ((bitI .and .i64 ((l1.getD ((Int.tdiv i9_2 16).toNat) 0) / 2 ^ ((Int.tmod i9_2 16).toNat)) 1) == 1)) (by kernel_rfl) (fun g17 => ?_) (fun g17 => ?_)
          · replace h := bif_t h g17
            obtain ⟨r41_3, g15, h⟩ := bind_some' h
            obtain ⟨r43_3, g16, h⟩ := bind_some' h
            refine W_reg hT (ftL_cons (k := 2) (f := 24) (F := (rMul_ct n r41_3)) (rMul_ok n r41_3) (fun _ _ => True.intro) (ftL_cons (k := 4) (f := 23) (F := (rRest_ct n r43_3)) (rRest_ok n r43_3) (fun _ _ => True.intro) ftL_nil)) [] [] [1, 2, 7, 8, 9] [0, 1, 5, 3] (s' := (rExp_j1_E l1 l2 r15 i9_2 r43_3.1 r43_3.2)) (by kernel_rfl) (allP_cons.2 ⟨g15, (allP_cons.2 ⟨g16, allP_nil⟩)⟩) ?_
            exact rExp_j1_M h
          · replace h := bif_f h g17
            refine W_co [] [1, 2, 7, 8, 9] [0, 1, 2, 3] (s' := (rExp_j1_E l1 l2 r15 i9_2 r28_3.1 r28_3.2)) (by kernel_rfl) (W_skip ?_)
            exact rExp_j1_M h
      · replace h := bif_f h g18
        refine W_co [] [7] [2] (s' := ⟨[(7, .c (.wh 0))], [], [⟨(.ro true), 3, 1, m7_9, .z z7_9⟩]⟩) (by kernel_rfl) (W_exit ?_)
        refine W_seq ?_
        refine W_reg hT ftL_nil [] [] [6] [0] (s' := ⟨[(6, .c (.wh 0))], [], [⟨(.ro true), 3, 1, m7_9, .z z7_9⟩]⟩) (by kernel_rfl) allP_nil ?_
        refine W_co [] [6] [0] (s' := (rExp_R (z7_9, m7_9))) (by kernel_rfl) (W_ret ?_)
        exact ⟨.inl rfl, by cases h; rfl⟩
  · rintro e s' ⟨he, rfl⟩
    refine ⟨he, fun a' w' hr => ?_⟩
    exact retS_ok tabO_nu hr (rs := [.tmp 6]) rfl (objs := [0]) (by kernel_rfl)
def rGcd_l1_E (z5_5 : List Int) (m5_2 : Nat) (z6_5 : List Int) (m6_5 : Nat) : S := ⟨[(5, .c (.wh 0)), (6, .c (.wh 1))], [], [⟨(.ro false), 3, 1, m5_2, .z z5_5⟩, ⟨(.ro false), 3, 1, m6_5, .z z6_5⟩]⟩
def rGcd_l1_P (n : Nat) (r : List Int × Nat) (fu : Nat) : S → Prop := fun s => ∃ (z5_5 : List Int), ∃ (m5_2 : Nat), ∃ (z6_5 : List Int), ∃ (m6_5 : Nat), s = rGcd_l1_E z5_5 m5_2 z6_5 m6_5 ∧ rGcd_l1 n fu z5_5 m5_2 z6_5 m6_5 = some r
theorem rGcd_l1_M {n : Nat} {z5_5 : List Int} {m5_2 : Nat} {z6_5 : List Int} {m6_5 : Nat} {r : List Int × Nat} {fu : Nat} (h : rGcd_l1 n fu z5_5 m5_2 z6_5 m6_5 = some r) : rGcd_l1_P n r fu (rGcd_l1_E z5_5 m5_2 z6_5 m6_5) := ⟨z5_5, m5_2, z6_5, m6_5, rfl, h⟩
def rGcd_R (r : List Int × Nat) : S := ⟨[(4, .c (.wh 0))], [], [⟨(.ro false), 3, 1, r.2, .z r.1⟩]⟩
def rGcd_ct (n : Nat) (r : List Int × Nat) : Ct := fun args H => match args with
  | [x0, x1] => (match aZ H x0 with | some l0 => (match aZ H x1 with | some l1 => some ([rGcd n l0 l1 = some r], shA H.length (.c (.wh 0)), shH H.length [⟨(.ro false), 3, 1, r.2, .z r.1⟩]) | none => none) | none => none)
  | _ => none
theorem rGcd_ok (n : Nat) (r : List Int × Nat) : FnOk Try.prog Tr 22 (rGcd_ct n r) := by
  refine ⟨fun args H g av objs hF hg ρ w vals hG hp ha => ?_, _, Try.func22, by kernel_rfl, by kernel_rfl⟩
  obtain ⟨x0, x1, rfl⟩ : ∃ x0 x1, args = [x0, x1] := by
    unfold rGcd_ct at hF; split at hF
    · exact ⟨_, _, rfl⟩
    · cases hF
  cases e0 : aZ H x0 with
  | none => simp only [rGcd_ct, e0, reduceCtorEq] at hF
  | some l0 =>
  cases e1 : aZ H x1 with
  | none => simp only [rGcd_ct, e0, e1, reduceCtorEq] at hF
  | some l1 =>
  simp only [rGcd_ct, e0, e1, Option.some.injEq, Prod.mk.injEq] at hF
  obtain ⟨rfl, rfl, rfl⟩ := hF
  obtain ⟨v0, vals, rfl, k0, ha⟩ := F2.inv ha
  obtain ⟨v1, vals, rfl, k1, ha⟩ := F2.inv ha
  obtain rfl := F2.inv0 ha
  have hI : ∀ w', Kp (noB (fun _ => undef)) w w' → Tr w' := fun _ hk => Tr.keep hk.below hG
  have h : rGcd n l0 l1 = some r := hg
  obtain ⟨p0, s0, o0⟩ := aZ_ok hp e0 (k0) 3
  obtain ⟨p1, s1, o1⟩ := aZ_ok hp e1 (k1) 3
  have hR0 := rel0 (gv := (fun _ => undef)) (n := 19) (w := w) (args := [.c (.wh 0), .c (.wh 1)]) (H := [⟨.ro false, 3, 1, l0.length, .z l0⟩, ⟨.ro false, 3, 1, l1.length, .z l1⟩]) (gl := []) (hpL (ps := [p0, p1]) (F2.cons o0 (F2.cons o1 F2.nil))) (allRo_ok rfl) (F2.cons s0 (F2.cons s1 F2.nil)) GlR.nil (by simp)
  clear ha hp hg k0 k1 e0 e1
  refine calls_W Try.func22 rfl rfl hR0 (Q := fun e s => (e = .ret ∨ e = .normal) ∧ s = rGcd_R r) ?_ ?_
  · clear hR0
    unfold rGcd at h
    have hT := tabO_nu
    refine W_seq ?_
    refine W_reg hT ftL_nil [] [] [0, 1] [0, 1] (s' := ⟨[(0, .c (.wh 0)), (1, .c (.wh 1))], [], [⟨(.ro false), 3, 1, l0.length, .z l0⟩, ⟨(.ro false), 3, 1, l1.length, .z l1⟩]⟩) (by kernel_rfl) allP_nil ?_
    refine W_seq ?_
    refine W_reg hT ftL_nil [] [] [1, 5] [1, 0] (s' := ⟨[(1, .c (.wh 0)), (5, .c (.wh 1))], [], [⟨(.ro false), 3, 1, l1.length, .z l1⟩, ⟨(.ro false), 3, 1, l0.length, .z l0⟩]⟩) (by kernel_rfl) allP_nil ?_
    refine W_seq ?_
    refine W_reg hT ftL_nil [] [] [5, 6] [1, 0] (s' := ⟨[(5, .c (.wh 0)), (6, .c (.wh 1))], [], [⟨(.ro false), 3, 1, l0.length, .z l0⟩, ⟨(.ro false), 3, 1, l1.length, .z l1⟩]⟩) (by kernel_rfl) allP_nil ?_
    refine W_seq ?_
    refine W_block ?_
    refine W_co [] [5, 6] [0, 1] (s' := (rGcd_l1_E l0 l0.length l1 l1.length)) (by kernel_rfl) (W_lp ((rGcd_l1_P n r)) n (rGcd_l1_M h) ?_)
    rintro fu_l1 _ ⟨z5_5, m5_2, z6_5, m6_5, rfl, h⟩
    cases fu_l1 with
    | zero => cases h
    | succ fu_l1 =>
      refine ⟨fu_l1, rfl, ?_⟩
      rw [rGcd_l1] at h
      refine W_seq ?_
      refine W_seq ?_
      refine W_reg hT ftL_nil [] [] [5, 6, 12] [0, 1] (s' := ⟨[(5, .c (.wh 0)), (6, .c (.wh 1)), (12, .c (.s (.b (decide ((0 : Int) < ((m6_5 : Nat) : Int))))))], [], [⟨(.ro false), 3, 1, m5_2, .z z5_5⟩, ⟨(.ro false), 3, 1, m6_5, .z z6_5⟩]⟩) (by kernel_rfl) allP_nil ?_
      refine W_cond (b := (decide ((0 : Int) < ((m6_5 : Nat) : Int)))) (by kernel_rfl) (fun g2 => ?_) (fun g2 => ?_)
      · replace h := bif_t h g2
        refine W_co [] [5, 6] [0, 1] (s' := ⟨[(5, .c (.wh 0)), (6, .c (.wh 1))], [], [⟨(.ro false), 3, 1, m5_2, .z z5_5⟩, ⟨(.ro false), 3, 1, m6_5, .z z6_5⟩]⟩) (by kernel_rfl) (W_skip ?_)
        refine W_block ?_
        refine W_seq ?_
        obtain ⟨r15_6, g1, h⟩ := bind_some' h
        refine W_reg hT (ftL_cons (k := 2) (f := 23) (F := (rRest_ct n r15_6)) (rRest_ok n r15_6) (fun _ _ => True.intro) ftL_nil) [] [] [6, 7] [1, 2] (s' := ⟨[(6, .c (.wh 0)), (7, .c (.wh 1))], [], [⟨(.ro false), 3, 1, m6_5, .z z6_5⟩, ⟨(.ro true), 3, 1, r15_6.2, .z r15_6.1⟩]⟩) (by kernel_rfl) (allP_cons.2 ⟨g1, allP_nil⟩) ?_
        refine W_seq ?_
        refine W_reg hT ftL_nil [] [] [5, 7] [0, 1] (s' := ⟨[(5, .c (.wh 0)), (7, .c (.wh 1))], [], [⟨(.ro false), 3, 1, m6_5, .z z6_5⟩, ⟨(.ro true), 3, 1, r15_6.2, .z r15_6.1⟩]⟩) (by kernel_rfl) allP_nil ?_
        refine W_reg hT ftL_nil [] [.vw 6 false] [5, 6] [0, 2] (s' := (rGcd_l1_E z6_5 m6_5 r15_6.1 r15_6.2)) (by kernel_rfl) allP_nil ?_
        exact rGcd_l1_M h
      · replace h := bif_f h g2
        refine W_co [] [5] [0] (s' := ⟨[(5, .c (.wh 0))], [], [⟨(.ro false), 3, 1, m5_2, .z z5_5⟩]⟩) (by kernel_rfl) (W_exit ?_)
        refine W_seq ?_
        refine W_reg hT ftL_nil [] [] [4] [0] (s' := ⟨[(4, .c (.wh 0))], [], [⟨(.ro false), 3, 1, m5_2, .z z5_5⟩]⟩) (by kernel_rfl) allP_nil ?_
        refine W_co [] [4] [0] (s' := (rGcd_R (z5_5, m5_2))) (by kernel_rfl) (W_ret ?_)
        exact ⟨.inl rfl, by cases h; rfl⟩
  · rintro e s' ⟨he, rfl⟩
    refine ⟨he, fun a' w' hr => ?_⟩
    exact retS_ok tabO_nu hr (rs := [.tmp 4]) rfl (objs := [0]) (by kernel_rfl)
def rAdd_l1_E (a0 : List Int) (a1 : List Int) (z5_2 : List Int) (i6_2 : Int) (i7_2 : Int) : S := ⟨[(0, .c (.wh 0)), (1, .c (.wh 1)), (5, .c (.wh 2)), (6, .c (.s (.k .i64 i6_2))), (7, .c (.s (.k .i64 i7_2)))], [], [⟨(.ro false), 3, 1, a0.length, .z a0⟩, ⟨(.ro false), 3, 1, a1.length, .z a1⟩, ⟨.row, 3, 1, z5_2.length, .z z5_2⟩]⟩
def rAdd_l1_P (n : Nat) (a0 : List Int) (a1 : List Int) (r : List Int × Nat) (fu : Nat) : S → Prop := fun s => ∃ (z5_2 : List Int), ∃ (i6_2 : Int), ∃ (i7_2 : Int), s = rAdd_l1_E a0 a1 z5_2 i6_2 i7_2 ∧ rAdd_l1 n a0 a1 fu z5_2 i6_2 i7_2 = some r
theorem rAdd_l1_M {n : Nat} {a0 : List Int} {a1 : List Int} {z5_2 : List Int} {i6_2 : Int} {i7_2 : Int} {r : List Int × Nat} {fu : Nat} (h : rAdd_l1 n a0 a1 fu z5_2 i6_2 i7_2 = some r) : rAdd_l1_P n a0 a1 r fu (rAdd_l1_E a0 a1 z5_2 i6_2 i7_2) := ⟨z5_2, i6_2, i7_2, rfl, h⟩
def rAdd_R (r : List Int × Nat) : S := ⟨[(4, .c (.wh 0))], [], [⟨(.ro true), 3, 1, r.2, .z r.1⟩]⟩
def rAdd_ct (n : Nat) (r : List Int × Nat) : Ct := fun args H => match args with
  | [x0, x1] => (match aZ H x0 with | some l0 => (match aZ H x1 with | some l1 => some ([rAdd n l0 l1 = some r], shA H.length (.c (.wh 0)), shH H.length [⟨(.ro true), 3, 1, r.2, .z r.1⟩]) | none => none) | none => none)
  | _ => none
theorem rAdd_ok (n : Nat) (r : List Int × Nat) : FnOk Try.prog Tr 28 (rAdd_ct n r) := by
  refine ⟨fun args H g av objs hF hg ρ w vals hG hp ha => ?_, _, Try.func28, by kernel_rfl, by kernel_rfl⟩
  obtain ⟨x0, x1, rfl⟩ : ∃ x0 x1, args = [x0, x1] := by
    unfold rAdd_ct at hF; split at hF
    · exact ⟨_, _, rfl⟩
    · cases hF
  cases e0 : aZ H x0 with
  | none => simp only [rAdd_ct, e0, reduceCtorEq] at hF
  | some l0 =>
  cases e1 : aZ H x1 with
  | none => simp only [rAdd_ct, e0, e1, reduceCtorEq] at hF
  | some l1 =>
  simp only [rAdd_ct, e0, e1, Option.some.injEq, Prod.mk.injEq] at hF
  obtain ⟨rfl, rfl, rfl⟩ := hF
  obtain ⟨v0, vals, rfl, k0, ha⟩ := F2.inv ha
  obtain ⟨v1, vals, rfl, k1, ha⟩ := F2.inv ha
  obtain rfl := F2.inv0 ha
  have hI : ∀ w', Kp (noB (fun _ => undef)) w w' → Tr w' := fun _ hk => Tr.keep hk.below hG
  have h : rAdd n l0 l1 = some r := hg
  obtain ⟨p0, s0, o0⟩ := aZ_ok hp e0 (k0) 3
  obtain ⟨p1, s1, o1⟩ := aZ_ok hp e1 (k1) 3
  have hR0 := rel0 (gv := (fun _ => undef)) (n := 42) (w := w) (args := [.c (.wh 0), .c (.wh 1)]) (H := [⟨.ro false, 3, 1, l0.length, .z l0⟩, ⟨.ro false, 3, 1, l1.length, .z l1⟩]) (gl := []) (hpL (ps := [p0, p1]) (F2.cons o0 (F2.cons o1 F2.nil))) (allRo_ok rfl) (F2.cons s0 (F2.cons s1 F2.nil)) GlR.nil (by simp)
  clear ha hp hg k0 k1 e0 e1
  refine calls_W Try.func28 rfl rfl hR0 (Q := fun e s => (e = .ret ∨ e = .normal) ∧ s = rAdd_R r) ?_ ?_
  · clear hR0
    unfold rAdd at h
    have hT := tabO_nu
    refine W_seq ?_
    refine W_reg hT ftL_nil [] [] [0, 1] [0, 1] (s' := ⟨[(0, .c (.wh 0)), (1, .c (.wh 1))], [], [⟨(.ro false), 3, 1, l0.length, .z l0⟩, ⟨(.ro false), 3, 1, l1.length, .z l1⟩]⟩) (by kernel_rfl) allP_nil ?_
    refine W_seq ?_
    refine W_reg hT ftL_nil [] [] [0, 1, 5] [0, 1] (s' := ⟨[(0, .c (.wh 0)), (1, .c (.wh 1)), (5, .c (.nils))], [], [⟨(.ro false), 3, 1, l0.length, .z l0⟩, ⟨(.ro false), 3, 1, l1.length, .z l1⟩]⟩) (by kernel_rfl) allP_nil ?_
    refine W_seq ?_
    refine W_reg hT ftL_nil [] [] [0, 1, 5, 6] [0, 1] (s' := ⟨[(0, .c (.wh 0)), (1, .c (.wh 1)), (5, .c (.nils)), (6, .c (.s (.k .i64 0)))], [], [⟨(.ro false), 3, 1, l0.length, .z l0⟩, ⟨(.ro false), 3, 1, l1.length, .z l1⟩]⟩) (by kernel_rfl) allP_nil ?_
    refine W_seq ?_
    refine W_seq ?_
    refine W_reg hT ftL_nil [] [] [0, 1, 5, 6, 7] [0, 1] (s' := ⟨[(0, .c (.wh 0)), (1, .c (.wh 1)), (5, .c (.nils)), (6, .c (.s (.k .i64 0))), (7, .c (.s (.k .i64 0)))], [], [⟨(.ro false), 3, 1, l0.length, .z l0⟩, ⟨(.ro false), 3, 1, l1.length, .z l1⟩]⟩) (by kernel_rfl) allP_nil ?_
    refine W_block ?_
    refine W_co [.nil 5 3 1 (.z [])] [0, 1, 5, 6, 7] [0, 1, 2] (s' := (rAdd_l1_E l0 l1 [] 0 0)) (by kernel_rfl) (W_lp ((rAdd_l1_P n l0 l1 r)) n (rAdd_l1_M h) ?_)
    rintro fu_l1 _ ⟨z5_2, i6_2, i7_2, rfl, h⟩
    cases fu_l1 with
    | zero => cases h
    | succ fu_l1 =>
      refine ⟨fu_l1, rfl, ?_⟩
      rw [rAdd_l1] at h
      refine W_seq ?_
      refine W_seq ?_
      rcases Bool.eq_false_or_eq_true (decide (i7_2 < ((l0.length : Nat) : Int))) with g1 | g1
      · replace h := bif_t h g1
        refine W_reg hT ftL_nil [(4, true)] [] [0, 1, 5, 6, 7, 21] [0, 1, 2] (s' := ⟨[(0, .c (.wh 0)), (1, .c (.wh 1)), (5, .c (.wh 2)), (6, .c (.s (.k .i64 i6_2))), (7, .c (.s (.k .i64 i7_2))), (21, .c (.s (.b true)))], [], [⟨(.ro false), 3, 1, l0.length, .z l0⟩, ⟨(.ro false), 3, 1, l1.length, .z l1⟩, ⟨.row, 3, 1, z5_2.length, .z z5_2⟩]⟩) (by kernel_rfl) (allP_cons.2 ⟨g1, allP_nil⟩) ?_
        refine W_cond (b := true) (by kernel_rfl) (fun _ => ?_) (fun hb => by cases hb)
        refine W_co [] [0, 1, 5, 6, 7] [0, 1, 2] (s' := ⟨[(0, .c (.wh 0)), (1, .c (.wh 1)), (5, .c (.wh 2)), (6, .c (.s (.k .i64 i6_2))), (7, .c (.s (.k .i64 i7_2)))], [], [⟨(.ro false), 3, 1, l0.length, .z l0⟩, ⟨(.ro false), 3, 1, l1.length, .z l1⟩, ⟨.row, 3, 1, z5_2.length, .z z5_2⟩]⟩) (by kernel_rfl) (W_skip ?_)
        refine W_seq ?_
        refine W_block ?_
        refine W_seq ?_
        obtain ⟨r27_3, g2, h⟩ := bind_some' h
        obtain ⟨g3, h⟩ := gd_some h
        obtain ⟨r31_3, g4, h⟩ := bind_some' h
        obtain ⟨g5, h⟩ := gd_some h
        refine W_reg hT (ftL_cons (k := 3) (f := 46) (F := (rdigit_ct n r27_3)) (rdigit_ok n r27_3) (fun _ _ => True.intro) (ftL_cons (k := 7) (f := 46) (F := (rdigit_ct n r31_3)) (rdigit_ok n r31_3) (fun _ _ => True.intro) ftL_nil)) [] [] [0, 1, 5, 6, 7] [0, 1, 2] (s' := ⟨[(0, .c (.wh 0)), (1, .c (.wh 1)), (5, .c (.wh 2)), (6, .c (.s (.k .i64 ((i6_2 + r27_3) + r31_3)))), (7, .c (.s (.k .i64 i7_2)))], [], [⟨(.ro false), 3, 1, l0.length, .z l0⟩, ⟨(.ro false), 3, 1, l1.length, .z l1⟩, ⟨.row, 3, 1, z5_2.length, .z z5_2⟩]⟩) (by kernel_rfl) (allP_cons.2 ⟨g2, (allP_cons.2 ⟨g3, (allP_cons.2 ⟨g4, (allP_cons.2 ⟨g5, allP_nil⟩)⟩)⟩)⟩) ?_
        refine W_seq ?_
        obtain ⟨g6, h⟩ := gd_some h
        obtain ⟨g7, h⟩ := gd_some h
        refine W_reg hT ftL_nil [] [] [0, 1, 5, 6, 7] [0, 1, 4] (s' := ⟨[(0, .c (.wh 0)), (1, .c (.wh 1)), (5, .c (.wh 2)), (6, .c (.s (.k .i64 ((i6_2 + r27_3) + r31_3)))), (7, .c (.s (.k .i64 i7_2)))], [], [⟨(.ro false), 3, 1, l0.length, .z l0⟩, ⟨(.ro false), 3, 1, l1.length, .z l1⟩, ⟨.row, 3, 1, (z5_2 ++ [(Int.tmod ((i6_2 + r27_3) + r31_3) 65536)]).length, .z (z5_2 ++ [(Int.tmod ((i6_2 + r27_3) + r31_3) 65536)])⟩]⟩) (by kernel_rfl) (allP_cons.2 ⟨g6, (allP_cons.2 ⟨g7, allP_nil⟩)⟩) ?_
        obtain ⟨g8, h⟩ := gd_some h
        obtain ⟨g9, h⟩ := gd_some h
        refine W_reg hT ftL_nil [] [] [0, 1, 5, 6, 7] [0, 1, 2] (s' := ⟨[(0, .c (.wh 0)), (1, .c (.wh 1)), (5, .c (.wh 2)), (6, .c (.s (.k .i64 (Int.tdiv ((i6_2 + r27_3) + r31_3) 65536)))), (7, .c (.s (.k .i64 i7_2)))], [], [⟨(.ro false), 3, 1, l0.length, .z l0⟩, ⟨(.ro false), 3, 1, l1.length, .z l1⟩, ⟨.row, 3, 1, (z5_2 ++ [(Int.tmod ((i6_2 + r27_3) + r31_3) 65536)]).length, .z (z5_2 ++ [(Int.tmod ((i6_2 + r27_3) + r31_3) 65536)])⟩]⟩) (by kernel_rfl) (allP_cons.2 ⟨g8, (allP_cons.2 ⟨g9, allP_nil⟩)⟩) ?_
        obtain ⟨g10, h⟩ := gd_some h
        refine W_reg hT ftL_nil [] [] [0, 1, 5, 6, 7] [0, 1, 2] (s' := (rAdd_l1_E l0 l1 (z5_2 ++ [(Int.tmod ((i6_2 + r27_3) + r31_3) 65536)]) (Int.tdiv ((i6_2 + r27_3) + r31_3) 65536) (i7_2 + 1))) (by kernel_rfl) (allP_cons.2 ⟨g10, allP_nil⟩) ?_
        exact rAdd_l1_M h
      · replace h := bif_f h g1
        rcases Bool.eq_false_or_eq_true (decide (i7_2 < ((l1.length : Nat) : Int))) with g11 | g11
        · replace h := bif_t h g11
          refine W_reg hT ftL_nil [(4, false), (10, true)] [] [0, 1, 5, 6, 7, 21] [0, 1, 2] (s' := ⟨[(0, .c (.wh 0)), (1, .c (.wh 1)), (5, .c (.wh 2)), (6, .c (.s (.k .i64 i6_2))), (7, .c (.s (.k .i64 i7_2))), (21, .c (.s (.b true)))], [], [⟨(.ro false), 3, 1, l0.length, .z l0⟩, ⟨(.ro false), 3, 1, l1.length, .z l1⟩, ⟨.row, 3, 1, z5_2.length, .z z5_2⟩]⟩) (by kernel_rfl) (allP_cons.2 ⟨g1, (allP_cons.2 ⟨g11, allP_nil⟩)⟩) ?_
          refine W_cond (b := true) (by kernel_rfl) (fun _ => ?_) (fun hb => by cases hb)
          refine W_co [] [0, 1, 5, 6, 7] [0, 1, 2] (s' := ⟨[(0, .c (.wh 0)), (1, .c (.wh 1)), (5, .c (.wh 2)), (6, .c (.s (.k .i64 i6_2))), (7, .c (.s (.k .i64 i7_2)))], [], [⟨(.ro false), 3, 1, l0.length, .z l0⟩, ⟨(.ro false), 3, 1, l1.length, .z l1⟩, ⟨.row, 3, 1, z5_2.length, .z z5_2⟩]⟩) (by kernel_rfl) (W_skip ?_)
          refine W_seq ?_
          refine W_block ?_
          refine W_seq ?_
          obtain ⟨r27_3, g12, h⟩ := bind_some' h
          obtain ⟨g13, h⟩ := gd_some h
          obtain ⟨r31_3, g14, h⟩ := bind_some' h
          obtain ⟨g15, h⟩ := gd_some h
          refine W_reg hT (ftL_cons (k := 3) (f := 46) (F := (rdigit_ct n r27_3)) (rdigit_ok n r27_3) (fun _ _ => True.intro) (ftL_cons (k := 7) (f := 46) (F := (rdigit_ct n r31_3)) (rdigit_ok n r31_3) (fun _ _ => True.intro) ftL_nil)) [] [] [0, 1, 5, 6, 7] [0, 1, 2] (s' := ⟨[(0, .c (.wh 0)), (1, .c (.wh 1)), (5, .c (.wh 2)), (6, .c (.s (.k .i64 ((i6_2 + r27_3) + r31_3)))), (7, .c (.s (.k .i64 i7_2)))], [], [⟨(.ro false), 3, 1, l0.length, .z l0⟩, ⟨(.ro false), 3, 1, l1.length, .z l1⟩, ⟨.row, 3, 1, z5_2.length, .z z5_2⟩]⟩) (by kernel_rfl) (allP_cons.2 ⟨g12, (allP_cons.2 ⟨g13, (allP_cons.2 ⟨g14, (allP_cons.2 ⟨g15, allP_nil⟩)⟩)⟩)⟩) ?_
          refine W_seq ?_
          obtain ⟨g16, h⟩ := gd_some h
          obtain ⟨g17, h⟩ := gd_some h
          refine W_reg hT ftL_nil [] [] [0, 1, 5, 6, 7] [0, 1, 4] (s' := ⟨[(0, .c (.wh 0)), (1, .c (.wh 1)), (5, .c (.wh 2)), (6, .c (.s (.k .i64 ((i6_2 + r27_3) + r31_3)))), (7, .c (.s (.k .i64 i7_2)))], [], [⟨(.ro false), 3, 1, l0.length, .z l0⟩, ⟨(.ro false), 3, 1, l1.length, .z l1⟩, ⟨.row, 3, 1, (z5_2 ++ [(Int.tmod ((i6_2 + r27_3) + r31_3) 65536)]).length, .z (z5_2 ++ [(Int.tmod ((i6_2 + r27_3) + r31_3) 65536)])⟩]⟩) (by kernel_rfl) (allP_cons.2 ⟨g16, (allP_cons.2 ⟨g17, allP_nil⟩)⟩) ?_
          obtain ⟨g18, h⟩ := gd_some h
          obtain ⟨g19, h⟩ := gd_some h
          refine W_reg hT ftL_nil [] [] [0, 1, 5, 6, 7] [0, 1, 2] (s' := ⟨[(0, .c (.wh 0)), (1, .c (.wh 1)), (5, .c (.wh 2)), (6, .c (.s (.k .i64 (Int.tdiv ((i6_2 + r27_3) + r31_3) 65536)))), (7, .c (.s (.k .i64 i7_2)))], [], [⟨(.ro false), 3, 1, l0.length, .z l0⟩, ⟨(.ro false), 3, 1, l1.length, .z l1⟩, ⟨.row, 3, 1, (z5_2 ++ [(Int.tmod ((i6_2 + r27_3) + r31_3) 65536)]).length, .z (z5_2 ++ [(Int.tmod ((i6_2 + r27_3) + r31_3) 65536)])⟩]⟩) (by kernel_rfl) (allP_cons.2 ⟨g18, (allP_cons.2 ⟨g19, allP_nil⟩)⟩) ?_
          obtain ⟨g20, h⟩ := gd_some h
          refine W_reg hT ftL_nil [] [] [0, 1, 5, 6, 7] [0, 1, 2] (s' := (rAdd_l1_E l0 l1 (z5_2 ++ [(Int.tmod ((i6_2 + r27_3) + r31_3) 65536)]) (Int.tdiv ((i6_2 + r27_3) + r31_3) 65536) (i7_2 + 1))) (by kernel_rfl) (allP_cons.2 ⟨g20, allP_nil⟩) ?_
          exact rAdd_l1_M h
        · replace h := bif_f h g11
          refine W_reg hT ftL_nil [(4, false), (10, false)] [] [0, 1, 5, 6, 7, 21] [0, 1, 2] (s' := ⟨[(0, .c (.wh 0)), (1, .c (.wh 1)), (5, .c (.wh 2)), (6, .c (.s (.k .i64 i6_2))), (7, .c (.s (.k .i64 i7_2))), (21, .c (.s (.b (decide ((0 : Int) < i6_2)))))], [], [⟨(.ro false), 3, 1, l0.length, .z l0⟩, ⟨(.ro false), 3, 1, l1.length, .z l1⟩, ⟨.row, 3, 1, z5_2.length, .z z5_2⟩]⟩) (by kernel_rfl) (allP_cons.2 ⟨g1, (allP_cons.2 ⟨g11, allP_nil⟩)⟩) ?_
          refine W_cond (b := (decide ((0 : Int) < i6_2))) (by kernel_rfl) (fun g31 => ?_) (fun g31 => ?_)
          · replace h := bif_t h g31
            refine W_co [] [0, 1, 5, 6, 7] [0, 1, 2] (s' := ⟨[(0, .c (.wh 0)), (1, .c (.wh 1)), (5, .c (.wh 2)), (6, .c (.s (.k .i64 i6_2))), (7, .c (.s (.k .i64 i7_2)))], [], [⟨(.ro false), 3, 1, l0.length, .z l0⟩, ⟨(.ro false), 3, 1, l1.length, .z l1⟩, ⟨.row, 3, 1, z5_2.length, .z z5_2⟩]⟩) (by kernel_rfl) (W_skip ?_)
            refine W_seq ?_
            refine W_block ?_
            refine W_seq ?_
            obtain ⟨r27_3, g21, h⟩ := bind_some' h
            obtain ⟨g22, h⟩ := gd_some h
            obtain ⟨r31_3, g23, h⟩ := bind_some' h
            obtain ⟨g24, h⟩ := gd_some h
            refine W_reg hT (ftL_cons (k := 3) (f := 46) (F := (rdigit_ct n r27_3)) (rdigit_ok n r27_3) (fun _ _ => True.intro) (ftL_cons (k := 7) (f := 46) (F := (rdigit_ct n r31_3)) (rdigit_ok n r31_3) (fun _ _ => True.intro) ftL_nil)) [] [] [0, 1, 5, 6, 7] [0, 1, 2] (s' := ⟨[(0, .c (.wh 0)), (1, .c (.wh 1)), (5, .c (.wh 2)), (6, .c (.s (.k .i64 ((i6_2 + r27_3) + r31_3)))), (7, .c (.s (.k .i64 i7_2)))], [], [⟨(.ro false), 3, 1, l0.length, .z l0⟩, ⟨(.ro false), 3, 1, l1.length, .z l1⟩, ⟨.row, 3, 1, z5_2.length, .z z5_2⟩]⟩) (by kernel_rfl) (allP_cons.2 ⟨g21, (allP_cons.2 ⟨g22, (allP_cons.2 ⟨g23, (allP_cons.2 ⟨g24, allP_nil⟩)⟩)⟩)⟩) ?_
            refine W_seq ?_
            obtain ⟨g25, h⟩ := gd_some h
            obtain ⟨g26, h⟩ := gd_some h
            refine W_reg hT ftL_nil [] [] [0, 1, 5, 6, 7] [0, 1, 4] (s' := ⟨[(0, .c (.wh 0)), (1, .c (.wh 1)), (5, .c (.wh 2)), (6, .c (.s (.k .i64 ((i6_2 + r27_3) + r31_3)))), (7, .c (.s (.k .i64 i7_2)))], [], [⟨(.ro false), 3, 1, l0.length, .z l0⟩, ⟨(.ro false), 3, 1, l1.length, .z l1⟩, ⟨.row, 3, 1, (z5_2 ++ [(Int.tmod ((i6_2 + r27_3) + r31_3) 65536)]).length, .z (z5_2 ++ [(Int.tmod ((i6_2 + r27_3) + r31_3) 65536)])⟩]⟩) (by kernel_rfl) (allP_cons.2 ⟨g25, (allP_cons.2 ⟨g26, allP_nil⟩)⟩) ?_
            obtain ⟨g27, h⟩ := gd_some h
            obtain ⟨g28, h⟩ := gd_some h
            refine W_reg hT ftL_nil [] [] [0, 1, 5, 6, 7] [0, 1, 2] (s' := ⟨[(0, .c (.wh 0)), (1, .c (.wh 1)), (5, .c (.wh 2)), (6, .c (.s (.k .i64 (Int.tdiv ((i6_2 + r27_3) + r31_3) 65536)))), (7, .c (.s (.k .i64 i7_2)))], [], [⟨(.ro false), 3, 1, l0.length, .z l0⟩, ⟨(.ro false), 3, 1, l1.length, .z l1⟩, ⟨.row, 3, 1, (z5_2 ++ [(Int.tmod ((i6_2 + r27_3) + r31_3) 65536)]).length, .z (z5_2 ++ [(Int.tmod ((i6_2 + r27_3) + r31_3) 65536)])⟩]⟩) (by kernel_rfl) (allP_cons.2 ⟨g27, (allP_cons.2 ⟨g28, allP_nil⟩)⟩) ?_
            obtain ⟨g29, h⟩ := gd_some h
            refine W_reg hT ftL_nil [] [] [0, 1, 5, 6, 7] [0, 1, 2] (s' := (rAdd_l1_E l0 l1 (z5_2 ++ [(Int.tmod ((i6_2 + r27_3) + r31_3) 65536)]) (Int.tdiv ((i6_2 + r27_3) + r31_3) 65536) (i7_2 + 1))) (by kernel_rfl) (allP_cons.2 ⟨g29, allP_nil⟩) ?_
            exact rAdd_l1_M h
          · replace h := bif_f h g31
            refine W_co [] [5] [2] (s' := ⟨[(5, .c (.wh 0))], [], [⟨.row, 3, 1, z5_2.length, .z z5_2⟩]⟩) (by kernel_rfl) (W_exit ?_)
            refine W_seq ?_
            obtain ⟨r41_2, g30, h⟩ := bind_some' h
            refine W_reg hT (ftL_cons (k := 1) (f := 36) (F := (rtrim_ct n r41_2)) (rtrim_ok n r41_2) (fun _ _ => True.intro) ftL_nil) [] [] [4] [0] (s' := ⟨[(4, .c (.sl 0 0 r41_2.2))], [], [⟨.row, 3, 1, z5_2.length, .z z5_2⟩]⟩) (by kernel_rfl) (allP_cons.2 ⟨g30, allP_nil⟩) ?_
            refine W_co [.vw 4 true] [4] [1] (s' := (rAdd_R (((z5_2.drop 0).take r41_2.2), r41_2.2))) (by kernel_rfl) (W_ret ?_)
            exact ⟨.inl rfl, by cases h; rfl⟩
  · rintro e s' ⟨he, rfl⟩
    refine ⟨he, fun a' w' hr => ?_⟩
    exact retS_ok tabO_nu hr (rs := [.tmp 4]) rfl (objs := [0]) (by kernel_rfl)
def lsame_l1_E (a0 : List UInt32) (a1 : List UInt32) (i5_2 : Int) : S := ⟨[(0, .c (.wh 0)), (1, .c (.wh 1)), (5, .c (.s (.k .i64 i5_2)))], [], [⟨(.ro false), 45, 1, a0.length, .w a0⟩, ⟨(.ro false), 45, 1, a1.length, .w a1⟩]⟩
def lsame_l1_P (n : Nat) (a0 : List UInt32) (a1 : List UInt32) (r : Bool) (fu : Nat) : S → Prop := fun s => ∃ (i5_2 : Int), s = lsame_l1_E a0 a1 i5_2 ∧ lsame_l1 n a0 a1 fu i5_2 = some r
theorem lsame_l1_M {n : Nat} {a0 : List UInt32} {a1 : List UInt32} {i5_2 : Int} {r : Bool} {fu : Nat} (h : lsame_l1 n a0 a1 fu i5_2 = some r) : lsame_l1_P n a0 a1 r fu (lsame_l1_E a0 a1 i5_2) := ⟨i5_2, rfl, h⟩
def lsame_R (r : Bool) : S := ⟨[(4, .c (.s (.b r)))], [], []⟩
def lsame_ct (n : Nat) (r : Bool) : Ct := fun args H => match args with
  | [x0, x1] => (match aW H x0 with | some l0 => (match aW H x1 with | some l1 => some ([lsame n l0 l1 = some r], shA H.length (.c (.s (.b r))), shH H.length []) | none => none) | none => none)
  | _ => none
theorem lsame_ok (n : Nat) (r : Bool) : FnOk Try.prog Tr 30 (lsame_ct n r) := by
  refine ⟨fun args H g av objs hF hg ρ w vals hG hp ha => ?_, _, Try.func30, by kernel_rfl, by kernel_rfl⟩
  obtain ⟨x0, x1, rfl⟩ : ∃ x0 x1, args = [x0, x1] := by
    unfold lsame_ct at hF; split at hF
    · exact ⟨_, _, rfl⟩
    · cases hF
  cases e0 : aW H x0 with
  | none => simp only [lsame_ct, e0, reduceCtorEq] at hF
  | some l0 =>
  cases e1 : aW H x1 with
  | none => simp only [lsame_ct, e0, e1, reduceCtorEq] at hF
  | some l1 =>
  simp only [lsame_ct, e0, e1, Option.some.injEq, Prod.mk.injEq] at hF
  obtain ⟨rfl, rfl, rfl⟩ := hF
  obtain ⟨v0, vals, rfl, k0, ha⟩ := F2.inv ha
  obtain ⟨v1, vals, rfl, k1, ha⟩ := F2.inv ha
  obtain rfl := F2.inv0 ha
  have hI : ∀ w', Kp (noB (fun _ => undef)) w w' → Tr w' := fun _ hk => Tr.keep hk.below hG
  have h : lsame n l0 l1 = some r := hg
  obtain ⟨p0, s0, o0⟩ := aW_ok hp e0 (k0) 45
  obtain ⟨p1, s1, o1⟩ := aW_ok hp e1 (k1) 45
  have hR0 := rel0 (gv := (fun _ => undef)) (n := 26) (w := w) (args := [.c (.wh 0), .c (.wh 1)]) (H := [⟨.ro false, 45, 1, l0.length, .w l0⟩, ⟨.ro false, 45, 1, l1.length, .w l1⟩]) (gl := []) (hpL (ps := [p0, p1]) (F2.cons o0 (F2.cons o1 F2.nil))) (allRo_ok rfl) (F2.cons s0 (F2.cons s1 F2.nil)) GlR.nil (by simp)
  clear ha hp hg k0 k1 e0 e1
  refine calls_W Try.func30 rfl rfl hR0 (Q := fun e s => (e = .ret ∨ e = .normal) ∧ s = lsame_R r) ?_ ?_
  · clear hR0
    unfold lsame at h
    have hT := tabO_nu
    refine W_seq ?_
    refine W_reg hT ftL_nil [] [] [0, 1] [0, 1] (s' := ⟨[(0, .c (.wh 0)), (1, .c (.wh 1))], [], [⟨(.ro false), 45, 1, l0.length, .w l0⟩, ⟨(.ro false), 45, 1, l1.length, .w l1⟩]⟩) (by kernel_rfl) allP_nil ?_
    refine W_seq ?_
    refine W_seq ?_
    refine W_reg hT ftL_nil [] [] [0, 1, 10] [0, 1] (s' := ⟨[(0, .c (.wh 0)), (1, .c (.wh 1)), (10, .c (.s (.b (((l0.length : Nat) : Int) != ((l1.length : Nat) : Int)))))], [], [⟨(.ro false), 45, 1, l0.length, .w l0⟩, ⟨(.ro false), 45, 1, l1.length, .w l1⟩]⟩) (by kernel_rfl) allP_nil ?_
    refine W_cond (b := (((l0.length : Nat) : Int) != ((l1.length : Nat) : Int))) (by kernel_rfl) (fun g8 => ?_) (fun g8 => ?_)
    · replace h := bif_t h g8
      refine W_seq ?_
      refine W_reg hT ftL_nil [] [] [4] [] (s' := ⟨[(4, .c (.s (.b false)))], [], []⟩) (by kernel_rfl) allP_nil ?_
      refine W_co [] [4] [] (s' := (lsame_R false)) (by kernel_rfl) (W_ret ?_)
      exact ⟨.inl rfl, by cases h; rfl⟩
    · replace h := bif_f h g8
      refine W_co [] [0, 1] [0, 1] (s' := ⟨[(0, .c (.wh 0)), (1, .c (.wh 1))], [], [⟨(.ro false), 45, 1, l0.length, .w l0⟩, ⟨(.ro false), 45, 1, l1.length, .w l1⟩]⟩) (by kernel_rfl) (W_skip ?_)
      refine W_seq ?_
      refine W_seq ?_
      refine W_reg hT ftL_nil [] [] [0, 1, 5] [0, 1] (s' := ⟨[(0, .c (.wh 0)), (1, .c (.wh 1)), (5, .c (.s (.k .i64 0)))], [], [⟨(.ro false), 45, 1, l0.length, .w l0⟩, ⟨(.ro false), 45, 1, l1.length, .w l1⟩]⟩) (by kernel_rfl) allP_nil ?_
      refine W_block ?_
      refine W_co [] [0, 1, 5] [0, 1] (s' := (lsame_l1_E l0 l1 0)) (by kernel_rfl) (W_lp ((lsame_l1_P n l0 l1 r)) n (lsame_l1_M h) ?_)
      rintro fu_l1 _ ⟨i5_2, rfl, h⟩
      cases fu_l1 with
      | zero => cases h
      | succ fu_l1 =>
        refine ⟨fu_l1, rfl, ?_⟩
        rw [lsame_l1] at h
        refine W_seq ?_
        refine W_seq ?_
        refine W_reg hT ftL_nil [] [] [0, 1, 5, 14] [0, 1] (s' := ⟨[(0, .c (.wh 0)), (1, .c (.wh 1)), (5, .c (.s (.k .i64 i5_2))), (14, .c (.s (.b (decide (i5_2 < ((l0.length : Nat) : Int))))))], [], [⟨(.ro false), 45, 1, l0.length, .w l0⟩, ⟨(.ro false), 45, 1, l1.length, .w l1⟩]⟩) (by kernel_rfl) allP_nil ?_
        refine W_cond (b := (decide (i5_2 < ((l0.length : Nat) : Int)))) (by kernel_rfl) (fun g7 => ?_) (fun g7 => ?_)
        · replace h := bif_t h g7
          refine W_co [] [0, 1, 5] [0, 1] (s' := ⟨[(0, .c (.wh 0)), (1, .c (.wh 1)), (5, .c (.s (.k .i64 i5_2)))], [], [⟨(.ro false), 45, 1, l0.length, .w l0⟩, ⟨(.ro false), 45, 1, l1.length, .w l1⟩]⟩) (by kernel_rfl) (W_skip ?_)
          refine W_seq ?_
          refine W_block ?_
          refine W_seq ?_
          obtain ⟨g1, h⟩ := gd_some h
          obtain ⟨g2, h⟩ := gd_some h
          obtain ⟨g3, h⟩ := gd_some h
          obtain ⟨g4, h⟩ := gd_some h
          refine W_regD hT ftL_nil (by kernel_rfl) 8 [] [(0, false), (1, false), (5, false), (20, false), (24, false)] [] [0, 1, 5, 25] [0, 1] (s' := ⟨[(0, .c (.wh 0)), (1, .c (.wh 1)), (5, .c (.s (.k .i64 i5_2))), (25, .c (.s (.b ((l0.getD i5_2.toNat 0) != (l1.getD i5_2.toNat 0)))))], [], [⟨(.ro false), 45, 1, l0.length, .w l0⟩, ⟨(.ro false), 45, 1, l1.length, .w l1⟩]⟩) (by kernel_rfl) (by kernel_rfl) (allP_cons.2 ⟨g1, (allP_cons.2 ⟨g2, (allP_cons.2 ⟨g3, (allP_cons.2 ⟨g4, allP_nil⟩)⟩)⟩)⟩) ?_
          refine W_cond (b := ((l0.getD i5_2.toNat 0) != (l1.getD i5_2.toNat 0))) (by kernel_rfl) (fun g6 => ?_) (fun g6 => ?_)
          · replace h := bif_t h g6
            refine W_seq ?_
            refine W_reg hT ftL_nil [] [] [4] [] (s' := ⟨[(4, .c (.s (.b false)))], [], []⟩) (by kernel_rfl) allP_nil ?_
            refine W_co [] [4] [] (s' := (lsame_R false)) (by kernel_rfl) (W_ret ?_)
            exact ⟨.inl rfl, by cases h; rfl⟩
          · replace h := bif_f h g6
            refine W_co [] [0, 1, 5] [0, 1] (s' := ⟨[(0, .c (.wh 0)), (1, .c (.wh 1)), (5, .c (.s (.k .i64 i5_2)))], [], [⟨(.ro false), 45, 1, l0.length, .w l0⟩, ⟨(.ro false), 45, 1, l1.length, .w l1⟩]⟩) (by kernel_rfl) (W_skip ?_)
            obtain ⟨g5, h⟩ := gd_some h
            refine W_reg hT ftL_nil [] [] [0, 1, 5] [0, 1] (s' := (lsame_l1_E l0 l1 (i5_2 + 1))) (by kernel_rfl) (allP_cons.2 ⟨g5, allP_nil⟩) ?_
            exact lsame_l1_M h
        · replace h := bif_f h g7
          refine W_co [] [] [] (s' := ⟨[], [], []⟩) (by kernel_rfl) (W_exit ?_)
          refine W_seq ?_
          refine W_reg hT ftL_nil [] [] [4] [] (s' := ⟨[(4, .c (.s (.b true)))], [], []⟩) (by kernel_rfl) allP_nil ?_
          refine W_co [] [4] [] (s' := (lsame_R true)) (by kernel_rfl) (W_ret ?_)
          exact ⟨.inl rfl, by cases h; rfl⟩
  · rintro e s' ⟨he, rfl⟩
    refine ⟨he, fun a' w' hr => ?_⟩
    exact retS_ok tabO_nu hr (rs := [.tmp 4]) rfl (objs := []) (by kernel_rfl)
end Go.Proofs.Ytpinmaodpfoinaa
