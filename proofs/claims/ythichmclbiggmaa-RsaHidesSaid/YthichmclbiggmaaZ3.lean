import Derived.Test.YthichmclbiggmaaZ2
import Derived.Test.YthichmclbiggmaaProg
section
set_option linter.unusedVariables false
set_option linter.unusedSimpArgs false
namespace Go.Proofs.Ythichmclbiggmaa
open Go.RowKit Go.Ch Go.Sx
def tabL_ra : List (TypeId × Ti) := [(2, ⟨.int .i64, 1, 8, true, some [.int .i64]⟩),
  (3, ⟨.int .i64, 1, 8, true, some [.int .i64]⟩),
  (5, ⟨.int .u8, 1, 1, true, some [.int .u8]⟩),
  (9, ⟨.str, 1, 16, true, some [.str]⟩),
  (23, ⟨.sl 47, 1, 24, false, some [.nils]⟩),
  (33, ⟨.int .i64, 1, 8, true, some [.int .i64]⟩),
  (47, ⟨.int .u32, 1, 4, true, some [.int .u32]⟩),
  (82, ⟨.int .u64, 1, 8, true, some [.int .u64]⟩)]
def tab_ra : Tab := fun t => (tabL_ra).lookup t
theorem tabE_ra : (tabL_ra.map fun p => tiOf Try.prog p.1) = tabL_ra.map fun p => some p.2 := by kernel_rfl
theorem tabO_ra : TabOk Try.prog tab_ra := tab_of tabE_ra
def ptrim_l1 (n : Nat) (a0 : List UInt32) : Nat → Nat → Option (List UInt32 × Nat)
  | 0, _ => none
  | fu_l1 + 1, m0n_2 =>
    bif (decide ((0 : Int) < ((m0n_2 : Nat) : Int))) then
      gd (okI .i64 (((m0n_2 : Nat) : Int) - 1)) <|
      gd (0 ≤ (((m0n_2 : Nat) : Int) - 1)) <|
      gd ((((m0n_2 : Nat) : Int) - 1) < ((m0n_2 : Nat) : Int)) <|
      bif ((a0.getD ((((m0n_2 : Nat) : Int) - 1).toNat) 0) == 0) then
        gd (okI .i64 (((m0n_2 : Nat) : Int) - 1)) <|
        gd (0 ≤ (((m0n_2 : Nat) : Int) - 1)) <|
        gd ((((m0n_2 : Nat) : Int) - 1) ≤ ((m0n_2 : Nat) : Int)) <|
        (ptrim_l1 n a0 fu_l1) ((((m0n_2 : Nat) : Int) - 1).toNat)
      else
        some (a0, m0n_2)
    else
      some (a0, m0n_2)
def ptrim (n : Nat) (a0 : List UInt32) : Option (List UInt32 × Nat) :=
  ptrim_l1 n a0 n a0.length
def pmay (n : Nat) (a0 : List UInt32) (a1 : List UInt32) : Option (List UInt32 × Nat × List UInt32 × Nat × Bool) :=
  (ptrim n a0).bind fun r8 =>
  (ptrim n a1).bind fun r10 =>
  bif (decide (((r8.2 : Nat) : Int) ≤ (64 : Int))) then
    some (((a0.drop 0).take r8.2), r8.2, ((a1.drop 0).take r10.2), r10.2, (decide (((r10.2 : Nat) : Int) ≤ (64 : Int))))
  else
    some (((a0.drop 0).take r8.2), r8.2, ((a1.drop 0).take r10.2), r10.2, false)
def cisNaN (n : Nat) (a0 : Int) : Option (Bool) :=
  some (a0 != a0)
def cCmp (n : Nat) (a0 : Int) (a1 : Int) : Option (Int) :=
  (cisNaN n a0).bind fun r8 =>
  (cisNaN n a1).bind fun r10 =>
  bif r8 then
    bif r10 then
      some 0
    else
      some (-1)
  else
    bif r10 then
      some 1
    else
      bif (decide (a0 < a1)) then
        some (-1)
      else
        bif (decide (a1 < a0)) then
          some 1
        else
          some 0
def cisNaN32 (n : Nat) (a0 : UInt32) : Option (Bool) :=
  some (a0 != a0)
def cCmp32 (n : Nat) (a0 : UInt32) (a1 : UInt32) : Option (Int) :=
  (cisNaN32 n a0).bind fun r8 =>
  (cisNaN32 n a1).bind fun r10 =>
  bif r8 then
    bif r10 then
      some 0
    else
      some (-1)
  else
    bif r10 then
      some 1
    else
      bif (decide (a0 < a1)) then
        some (-1)
      else
        bif (decide (a1 < a0)) then
          some 1
        else
          some 0
def pCmp_l1 (n : Nat) (a0 : List UInt32) (a1 : List UInt32) (r9 : List UInt32 × Nat) (r11 : List UInt32 × Nat) : Nat → Int → Option (Int)
  | 0, _ => none
  | fu_l1 + 1, i6_2 =>
    bif (decide ((0 : Int) ≤ i6_2)) then
      gd (0 ≤ i6_2) <|
      gd (i6_2 < ((r9.2 : Nat) : Int)) <|
      gd (0 ≤ i6_2) <|
      gd (i6_2 < ((r11.2 : Nat) : Int)) <|
      (cCmp32 n (((a0.drop 0).take r9.2).getD i6_2.toNat 0) (((a1.drop 0).take r11.2).getD i6_2.toNat 0)).bind fun r35_3 =>
      bif (r35_3 != 0) then
        some r35_3
      else
        gd (okI .i64 (i6_2 - 1)) <|
        (pCmp_l1 n a0 a1 r9 r11 fu_l1) (i6_2 - 1)
    else
      some 0
def pCmp (n : Nat) (a0 : List UInt32) (a1 : List UInt32) : Option (Int) :=
  (ptrim n a0).bind fun r9 =>
  (ptrim n a1).bind fun r11 =>
  (cCmp n ((r9.2 : Nat) : Int) ((r11.2 : Nat) : Int)).bind fun r16 =>
  bif (r16 != 0) then
    some r16
  else
    gd (okI .i64 (((r9.2 : Nat) : Int) - 1)) <|
    pCmp_l1 n a0 a1 r9 r11 n (((r9.2 : Nat) : Int) - 1)
def pshort_l1 (n : Nat) (a0 : List UInt32) (a1 : UInt32) : Nat → List UInt32 → UInt64 → Int → Option (List UInt32 × Nat × List UInt32 × Nat)
  | 0, _, _, _ => none
  | fu_l1 + 1, w6_1, y7_1, i8_1 =>
    bif (decide ((0 : Int) ≤ i8_1)) then
      gd (0 ≤ (32 : Int)) <|
      gd (0 ≤ i8_1) <|
      gd (i8_1 < ((a0.length : Nat) : Int)) <|
      gd (a1.toUInt64 ≠ 0) <|
      gd (a1.toUInt64 ≠ 0) <|
      gd (0 ≤ i8_1) <|
      gd (i8_1 < ((((a0.length : Nat) : Int).toNat : Nat) : Int)) <|
      gd (okI .i64 (i8_1 - 1)) <|
      (pshort_l1 n a0 a1 fu_l1) (w6_1.set i8_1.toNat ((((shl64 y7_1 32) ||| ((a0.getD i8_1.toNat 0).toUInt64)) / a1.toUInt64).toUInt32)) (((shl64 y7_1 32) ||| ((a0.getD i8_1.toNat 0).toUInt64)) % a1.toUInt64) (i8_1 - 1)
    else
      (ptrim n w6_1).bind fun r40_1 =>
      (ptrim n [y7_1.toUInt32]).bind fun r44_1 =>
      some (((w6_1.drop 0).take r40_1.2), r40_1.2, (([y7_1.toUInt32].drop 0).take r44_1.2), r44_1.2)
def pshort (n : Nat) (a0 : List UInt32) (a1 : UInt32) : Option (List UInt32 × Nat × List UInt32 × Nat) :=
  gd (0 ≤ ((a0.length : Nat) : Int)) <|
  gd (((a0.length : Nat) : Int) = ((a0.length : Nat) : Int)) <|
  gd (rmB (((a0.length : Nat) : Int).toNat) 4) <|
  gd (okI .i64 (((a0.length : Nat) : Int) - 1)) <|
  pshort_l1 n a0 a1 n (List.replicate (((a0.length : Nat) : Int).toNat) 0) 0 (((a0.length : Nat) : Int) - 1)
def blen32_j2 (n : Nat) (x0_3 : UInt32) (i2_4 : Int) : Option (Int) :=
  gd (0 ≤ ((x0_3.toUInt8.toNat : Nat) : Int)) <|
  gd (((x0_3.toUInt8.toNat : Nat) : Int) < ((([0, 1, 2, 2, 3, 3, 3, 3, 4, 4, 4, 4, 4, 4, 4, 4, 5, 5, 5, 5, 5, 5, 5, 5, 5, 5, 5, 5, 5, 5, 5, 5, 6, 6, 6, 6, 6, 6, 6, 6, 6, 6, 6, 6, 6, 6, 6, 6, 6, 6, 6, 6, 6, 6, 6, 6, 6, 6, 6, 6, 6, 6, 6, 6, 7, 7, 7, 7, 7, 7, 7, 7, 7, 7, 7, 7, 7, 7, 7, 7, 7, 7, 7, 7, 7, 7, 7, 7, 7, 7, 7, 7, 7, 7, 7, 7, 7, 7, 7, 7, 7, 7, 7, 7, 7, 7, 7, 7, 7, 7, 7, 7, 7, 7, 7, 7, 7, 7, 7, 7, 7, 7, 7, 7, 7, 7, 7, 7, 8, 8, 8, 8, 8, 8, 8, 8, 8, 8, 8, 8, 8, 8, 8, 8, 8, 8, 8, 8, 8, 8, 8, 8, 8, 8, 8, 8, 8, 8, 8, 8, 8, 8, 8, 8, 8, 8, 8, 8, 8, 8, 8, 8, 8, 8, 8, 8, 8, 8, 8, 8, 8, 8, 8, 8, 8, 8, 8, 8, 8, 8, 8, 8, 8, 8, 8, 8, 8, 8, 8, 8, 8, 8, 8, 8, 8, 8, 8, 8, 8, 8, 8, 8, 8, 8, 8, 8, 8, 8, 8, 8, 8, 8, 8, 8, 8, 8, 8, 8, 8, 8, 8, 8, 8, 8, 8, 8, 8, 8, 8, 8, 8, 8, 8, 8, 8, 8, 8, 8, 8, 8, 8, 8, 8, 8, 8, 8] : List UInt8).length : Nat) : Int)) <|
  gd (okI .i64 (i2_4 + (((([0, 1, 2, 2, 3, 3, 3, 3, 4, 4, 4, 4, 4, 4, 4, 4, 5, 5, 5, 5, 5, 5, 5, 5, 5, 5, 5, 5, 5, 5, 5, 5, 6, 6, 6, 6, 6, 6, 6, 6, 6, 6, 6, 6, 6, 6, 6, 6, 6, 6, 6, 6, 6, 6, 6, 6, 6, 6, 6, 6, 6, 6, 6, 6, 7, 7, 7, 7, 7, 7, 7, 7, 7, 7, 7, 7, 7, 7, 7, 7, 7, 7, 7, 7, 7, 7, 7, 7, 7, 7, 7, 7, 7, 7, 7, 7, 7, 7, 7, 7, 7, 7, 7, 7, 7, 7, 7, 7, 7, 7, 7, 7, 7, 7, 7, 7, 7, 7, 7, 7, 7, 7, 7, 7, 7, 7, 7, 7, 8, 8, 8, 8, 8, 8, 8, 8, 8, 8, 8, 8, 8, 8, 8, 8, 8, 8, 8, 8, 8, 8, 8, 8, 8, 8, 8, 8, 8, 8, 8, 8, 8, 8, 8, 8, 8, 8, 8, 8, 8, 8, 8, 8, 8, 8, 8, 8, 8, 8, 8, 8, 8, 8, 8, 8, 8, 8, 8, 8, 8, 8, 8, 8, 8, 8, 8, 8, 8, 8, 8, 8, 8, 8, 8, 8, 8, 8, 8, 8, 8, 8, 8, 8, 8, 8, 8, 8, 8, 8, 8, 8, 8, 8, 8, 8, 8, 8, 8, 8, 8, 8, 8, 8, 8, 8, 8, 8, 8, 8, 8, 8, 8, 8, 8, 8, 8, 8, 8, 8, 8, 8, 8, 8, 8, 8, 8, 8] : List UInt8).getD (((x0_3.toUInt8.toNat : Nat) : Int).toNat) 0).toNat : Nat) : Int))) <|
  some (i2_4 + (((([0, 1, 2, 2, 3, 3, 3, 3, 4, 4, 4, 4, 4, 4, 4, 4, 5, 5, 5, 5, 5, 5, 5, 5, 5, 5, 5, 5, 5, 5, 5, 5, 6, 6, 6, 6, 6, 6, 6, 6, 6, 6, 6, 6, 6, 6, 6, 6, 6, 6, 6, 6, 6, 6, 6, 6, 6, 6, 6, 6, 6, 6, 6, 6, 7, 7, 7, 7, 7, 7, 7, 7, 7, 7, 7, 7, 7, 7, 7, 7, 7, 7, 7, 7, 7, 7, 7, 7, 7, 7, 7, 7, 7, 7, 7, 7, 7, 7, 7, 7, 7, 7, 7, 7, 7, 7, 7, 7, 7, 7, 7, 7, 7, 7, 7, 7, 7, 7, 7, 7, 7, 7, 7, 7, 7, 7, 7, 7, 8, 8, 8, 8, 8, 8, 8, 8, 8, 8, 8, 8, 8, 8, 8, 8, 8, 8, 8, 8, 8, 8, 8, 8, 8, 8, 8, 8, 8, 8, 8, 8, 8, 8, 8, 8, 8, 8, 8, 8, 8, 8, 8, 8, 8, 8, 8, 8, 8, 8, 8, 8, 8, 8, 8, 8, 8, 8, 8, 8, 8, 8, 8, 8, 8, 8, 8, 8, 8, 8, 8, 8, 8, 8, 8, 8, 8, 8, 8, 8, 8, 8, 8, 8, 8, 8, 8, 8, 8, 8, 8, 8, 8, 8, 8, 8, 8, 8, 8, 8, 8, 8, 8, 8, 8, 8, 8, 8, 8, 8, 8, 8, 8, 8, 8, 8, 8, 8, 8, 8, 8, 8, 8, 8, 8, 8, 8, 8] : List UInt8).getD (((x0_3.toUInt8.toNat : Nat) : Int).toNat) 0).toNat : Nat) : Int))
def blen32_j1 (n : Nat) (x0_2 : UInt32) (i2_3 : Int) : Option (Int) :=
  bif (decide ((256 : UInt32) ≤ x0_2)) then
    gd (0 ≤ (8 : Int)) <|
    gd (okI .i64 (i2_3 + 8)) <|
    blen32_j2 n (shr32 x0_2 8) (i2_3 + 8)
  else
    blen32_j2 n x0_2 i2_3
def blen32 (n : Nat) (a0 : UInt32) : Option (Int) :=
  bif (decide ((65536 : UInt32) ≤ a0)) then
    gd (0 ≤ (16 : Int)) <|
    blen32_j1 n (shr32 a0 16) 16
  else
    blen32_j1 n a0 0
def bclz32 (n : Nat) (a0 : UInt32) : Option (Int) :=
  (blen32 n a0).bind fun r4 =>
  gd (okI .i64 (32 - r4)) <|
  some (32 - r4)
def pshift_l1 (n : Nat) (a0 : List UInt32) (a1 : Int) : Nat → List UInt32 → Int → Option (List UInt32 × Nat)
  | 0, _, _ => none
  | fu_l1 + 1, w5_2, i14_2 =>
    bif (decide (i14_2 < ((a0.length : Nat) : Int))) then
      gd (0 ≤ i14_2) <|
      gd (i14_2 < ((a0.length : Nat) : Int)) <|
      gd (0 ≤ i14_2) <|
      gd (i14_2 < (((((a0.length : Nat) : Int) + 1).toNat : Nat) : Int)) <|
      gd (0 ≤ a1) <|
      gd (0 ≤ i14_2) <|
      gd (i14_2 < (((((a0.length : Nat) : Int) + 1).toNat : Nat) : Int)) <|
      gd (okI .i64 (i14_2 + 1)) <|
      gd (0 ≤ a1) <|
      gd (0 ≤ (32 : Int)) <|
      gd (0 ≤ (i14_2 + 1)) <|
      gd ((i14_2 + 1) < (((((a0.length : Nat) : Int) + 1).toNat : Nat) : Int)) <|
      gd (okI .i64 (i14_2 + 1)) <|
      (pshift_l1 n a0 a1 fu_l1) ((w5_2.set i14_2.toNat ((w5_2.getD i14_2.toNat 0) ||| (shl32 (a0.getD i14_2.toNat 0) a1))).set ((i14_2 + 1).toNat) ((shr64 (shl64 ((a0.getD i14_2.toNat 0).toUInt64) a1) 32).toUInt32)) (i14_2 + 1)
    else
      some (w5_2, (((a0.length : Nat) : Int) + 1).toNat)
def pshift (n : Nat) (a0 : List UInt32) (a1 : Int) : Option (List UInt32 × Nat) :=
  gd (okI .i64 (((a0.length : Nat) : Int) + 1)) <|
  gd (0 ≤ (((a0.length : Nat) : Int) + 1)) <|
  gd ((((a0.length : Nat) : Int) + 1) = (((a0.length : Nat) : Int) + 1)) <|
  gd (rmB ((((a0.length : Nat) : Int) + 1).toNat) 4) <|
  pshift_l1 n a0 a1 n (List.replicate ((((a0.length : Nat) : Int) + 1).toNat) 0) 0
def pdigit_j1 (n : Nat) (y10_7 : UInt64) : Option (UInt64) :=
  some y10_7
def pdigit_l1 (n : Nat) (a0 : List UInt32) (a1 : List UInt32) (a2 : Int) : Nat → UInt64 → UInt64 → Option (UInt64)
  | 0, _, _ => none
  | fu_l1 + 1, y10_8, y11_5 =>
    gd (0 ≤ (32 : Int)) <|
    bif (decide ((0 : UInt64) < (shr64 y10_8 32))) then
      gd (0 ≤ (32 : Int)) <|
      bif (decide ((0 : UInt64) < (shr64 (y11_5 + ((a1.getD ((((a1.length : Nat) : Int) - 1).toNat) 0).toUInt64)) 32))) then
        pdigit_j1 n (y10_8 - (1 : UInt64))
      else
        (pdigit_l1 n a0 a1 a2 fu_l1) (y10_8 - (1 : UInt64)) (y11_5 + ((a1.getD ((((a1.length : Nat) : Int) - 1).toNat) 0).toUInt64))
    else
      gd (okI .i64 (((a1.length : Nat) : Int) - 2)) <|
      gd (0 ≤ (((a1.length : Nat) : Int) - 2)) <|
      gd ((((a1.length : Nat) : Int) - 2) < ((a1.length : Nat) : Int)) <|
      gd (0 ≤ (32 : Int)) <|
      gd (okI .i64 (a2 + ((a1.length : Nat) : Int))) <|
      gd (okI .i64 ((a2 + ((a1.length : Nat) : Int)) - 2)) <|
      gd (0 ≤ ((a2 + ((a1.length : Nat) : Int)) - 2)) <|
      gd (((a2 + ((a1.length : Nat) : Int)) - 2) < ((a0.length : Nat) : Int)) <|
      bif (decide (((shl64 y11_5 32) ||| ((a0.getD (((a2 + ((a1.length : Nat) : Int)) - 2).toNat) 0).toUInt64)) < (y10_8 * ((a1.getD ((((a1.length : Nat) : Int) - 2).toNat) 0).toUInt64)))) then
        gd (0 ≤ (32 : Int)) <|
        bif (decide ((0 : UInt64) < (shr64 (y11_5 + ((a1.getD ((((a1.length : Nat) : Int) - 1).toNat) 0).toUInt64)) 32))) then
          pdigit_j1 n (y10_8 - (1 : UInt64))
        else
          (pdigit_l1 n a0 a1 a2 fu_l1) (y10_8 - (1 : UInt64)) (y11_5 + ((a1.getD ((((a1.length : Nat) : Int) - 1).toNat) 0).toUInt64))
      else
        pdigit_j1 n y10_8
def pdigit (n : Nat) (a0 : List UInt32) (a1 : List UInt32) (a2 : Int) : Option (UInt64) :=
  gd (okI .i64 (((a1.length : Nat) : Int) - 1)) <|
  gd (0 ≤ (((a1.length : Nat) : Int) - 1)) <|
  gd ((((a1.length : Nat) : Int) - 1) < ((a1.length : Nat) : Int)) <|
  gd (okI .i64 (a2 + ((a1.length : Nat) : Int))) <|
  gd (0 ≤ (a2 + ((a1.length : Nat) : Int))) <|
  gd ((a2 + ((a1.length : Nat) : Int)) < ((a0.length : Nat) : Int)) <|
  gd (0 ≤ (32 : Int)) <|
  gd (okI .i64 (a2 + ((a1.length : Nat) : Int))) <|
  gd (okI .i64 ((a2 + ((a1.length : Nat) : Int)) - 1)) <|
  gd (0 ≤ ((a2 + ((a1.length : Nat) : Int)) - 1)) <|
  gd (((a2 + ((a1.length : Nat) : Int)) - 1) < ((a0.length : Nat) : Int)) <|
  gd (((a1.getD ((((a1.length : Nat) : Int) - 1).toNat) 0).toUInt64) ≠ 0) <|
  gd (((a1.getD ((((a1.length : Nat) : Int) - 1).toNat) 0).toUInt64) ≠ 0) <|
  pdigit_l1 n a0 a1 a2 n (((shl64 ((a0.getD ((a2 + ((a1.length : Nat) : Int)).toNat) 0).toUInt64) 32) ||| ((a0.getD (((a2 + ((a1.length : Nat) : Int)) - 1).toNat) 0).toUInt64)) / ((a1.getD ((((a1.length : Nat) : Int) - 1).toNat) 0).toUInt64)) (((shl64 ((a0.getD ((a2 + ((a1.length : Nat) : Int)).toNat) 0).toUInt64) 32) ||| ((a0.getD (((a2 + ((a1.length : Nat) : Int)) - 1).toNat) 0).toUInt64)) % ((a1.getD ((((a1.length : Nat) : Int) - 1).toNat) 0).toUInt64))
def pdivide_j1 (n : Nat) (a0 : List UInt32) (a1 : List UInt32) (r45 : Int) (r48 : List UInt32 × Nat) (r53 : List UInt32 × Nat) (w10_1 : List UInt32) (i11_1 : Int) (k_l1 : (List UInt32) → (List UInt32) → Int → Option (List UInt32 × Nat × List UInt32 × Nat)) (w9_25 : List UInt32) (y12_5 : UInt64) : Option (List UInt32 × Nat × List UInt32 × Nat) :=
  gd (0 ≤ i11_1) <|
  gd (i11_1 < ((((((a0.length : Nat) : Int) - ((a1.length : Nat) : Int)) + 1).toNat : Nat) : Int)) <|
  gd (okI .i64 (i11_1 - 1)) <|
  k_l1 w9_25 (w10_1.set i11_1.toNat y12_5.toUInt32) (i11_1 - 1)
def pdivide_l3 (n : Nat) (a0 : List UInt32) (a1 : List UInt32) (r45 : Int) (r48 : List UInt32 × Nat) (r53 : List UInt32 × Nat) (w10_1 : List UInt32) (i11_1 : Int) (r71_2 : UInt64) (k_l1 : (List UInt32) → (List UInt32) → Int → Option (List UInt32 × Nat × List UInt32 × Nat)) : Nat → List UInt32 → UInt64 → Int → Option (List UInt32 × Nat × List UInt32 × Nat)
  | 0, _, _, _ => none
  | fu_l3 + 1, w9_26, y18_11, i131_11 =>
    bif (decide (i131_11 < ((a1.length : Nat) : Int))) then
      gd (okI .i64 (i131_11 + i11_1)) <|
      gd (0 ≤ (i131_11 + i11_1)) <|
      gd ((i131_11 + i11_1) < ((r53.2 : Nat) : Int)) <|
      gd (0 ≤ i131_11) <|
      gd (i131_11 < ((((a1.length : Nat) : Int).toNat : Nat) : Int)) <|
      gd (okI .i64 (i131_11 + i11_1)) <|
      gd (0 ≤ (32 : Int)) <|
      gd (0 ≤ (i131_11 + i11_1)) <|
      gd ((i131_11 + i11_1) < ((r53.2 : Nat) : Int)) <|
      gd (okI .i64 (i131_11 + 1)) <|
      (pdivide_l3 n a0 a1 r45 r48 r53 w10_1 i11_1 r71_2 k_l1 fu_l3) (w9_26.set ((i131_11 + i11_1).toNat) ((y18_11 + (((w9_26.getD ((i131_11 + i11_1).toNat) 0).toUInt64) + ((((r48.1.drop 0).take (((a1.length : Nat) : Int).toNat)).getD i131_11.toNat 0).toUInt64))).toUInt32)) (shr64 (y18_11 + (((w9_26.getD ((i131_11 + i11_1).toNat) 0).toUInt64) + ((((r48.1.drop 0).take (((a1.length : Nat) : Int).toNat)).getD i131_11.toNat 0).toUInt64))) 32) (i131_11 + 1)
    else
      gd (okI .i64 (i11_1 + ((a1.length : Nat) : Int))) <|
      gd (0 ≤ (i11_1 + ((a1.length : Nat) : Int))) <|
      gd ((i11_1 + ((a1.length : Nat) : Int)) < ((r53.2 : Nat) : Int)) <|
      gd (0 ≤ (i11_1 + ((a1.length : Nat) : Int))) <|
      gd ((i11_1 + ((a1.length : Nat) : Int)) < ((r53.2 : Nat) : Int)) <|
      pdivide_j1 n a0 a1 r45 r48 r53 w10_1 i11_1 k_l1 (w9_26.set ((i11_1 + ((a1.length : Nat) : Int)).toNat) ((w9_26.getD ((i11_1 + ((a1.length : Nat) : Int)).toNat) 0) + y18_11.toUInt32)) (r71_2 - (1 : UInt64))
def pdivide_l2 (n : Nat) (a0 : List UInt32) (a1 : List UInt32) (r45 : Int) (r48 : List UInt32 × Nat) (r53 : List UInt32 × Nat) (w10_1 : List UInt32) (i11_1 : Int) (r71_2 : UInt64) (k_l1 : (List UInt32) → (List UInt32) → Int → Option (List UInt32 × Nat × List UInt32 × Nat)) : Nat → List UInt32 → Int → Int → Option (List UInt32 × Nat × List UInt32 × Nat)
  | 0, _, _, _ => none
  | fu_l2 + 1, w9_23, i13_5, i73_5 =>
    bif (decide (i73_5 < ((a1.length : Nat) : Int))) then
      gd (0 ≤ i73_5) <|
      gd (i73_5 < ((((a1.length : Nat) : Int).toNat : Nat) : Int)) <|
      gd (okI .i64 (i73_5 + i11_1)) <|
      gd (0 ≤ (i73_5 + i11_1)) <|
      gd ((i73_5 + i11_1) < ((r53.2 : Nat) : Int)) <|
      gd (okI .i64 ((((w9_23.getD ((i73_5 + i11_1).toNat) 0).toNat : Nat) : Int) - i13_5)) <|
      gd (okI .i64 (((((w9_23.getD ((i73_5 + i11_1).toNat) 0).toNat : Nat) : Int) - i13_5) - ((((r71_2 * ((((r48.1.drop 0).take (((a1.length : Nat) : Int).toNat)).getD i73_5.toNat 0).toUInt64)).toUInt32).toNat : Nat) : Int))) <|
      gd (okI .i64 (i73_5 + i11_1)) <|
      gd (0 ≤ (32 : Int)) <|
      gd (0 ≤ (32 : Int)) <|
      gd ((32 : Int) ≤ (((IntKind.i64).bits : Nat) : Int)) <|
      gd (okI .i64 ((IntKind.i64.wrap (((shr64 (r71_2 * ((((r48.1.drop 0).take (((a1.length : Nat) : Int).toNat)).getD i73_5.toNat 0).toUInt64)) 32).toNat : Nat) : Int)) - ((((((w9_23.getD ((i73_5 + i11_1).toNat) 0).toNat : Nat) : Int) - i13_5) - ((((r71_2 * ((((r48.1.drop 0).take (((a1.length : Nat) : Int).toNat)).getD i73_5.toNat 0).toUInt64)).toUInt32).toNat : Nat) : Int)) / 2 ^ 32))) <|
      gd (0 ≤ (i73_5 + i11_1)) <|
      gd ((i73_5 + i11_1) < ((r53.2 : Nat) : Int)) <|
      gd (okI .i64 (i73_5 + 1)) <|
      (pdivide_l2 n a0 a1 r45 r48 r53 w10_1 i11_1 r71_2 k_l1 fu_l2) (w9_23.set ((i73_5 + i11_1).toNat) (UInt32.ofInt (((((w9_23.getD ((i73_5 + i11_1).toNat) 0).toNat : Nat) : Int) - i13_5) - ((((r71_2 * ((((r48.1.drop 0).take (((a1.length : Nat) : Int).toNat)).getD i73_5.toNat 0).toUInt64)).toUInt32).toNat : Nat) : Int)))) ((IntKind.i64.wrap (((shr64 (r71_2 * ((((r48.1.drop 0).take (((a1.length : Nat) : Int).toNat)).getD i73_5.toNat 0).toUInt64)) 32).toNat : Nat) : Int)) - ((((((w9_23.getD ((i73_5 + i11_1).toNat) 0).toNat : Nat) : Int) - i13_5) - ((((r71_2 * ((((r48.1.drop 0).take (((a1.length : Nat) : Int).toNat)).getD i73_5.toNat 0).toUInt64)).toUInt32).toNat : Nat) : Int)) / 2 ^ 32)) (i73_5 + 1)
    else
      gd (okI .i64 (i11_1 + ((a1.length : Nat) : Int))) <|
      gd (0 ≤ (i11_1 + ((a1.length : Nat) : Int))) <|
      gd ((i11_1 + ((a1.length : Nat) : Int)) < ((r53.2 : Nat) : Int)) <|
      gd (okI .i64 ((((w9_23.getD ((i11_1 + ((a1.length : Nat) : Int)).toNat) 0).toNat : Nat) : Int) - i13_5)) <|
      gd (okI .i64 (i11_1 + ((a1.length : Nat) : Int))) <|
      gd (0 ≤ (i11_1 + ((a1.length : Nat) : Int))) <|
      gd ((i11_1 + ((a1.length : Nat) : Int)) < ((r53.2 : Nat) : Int)) <|
      bif (decide (((((w9_23.getD ((i11_1 + ((a1.length : Nat) : Int)).toNat) 0).toNat : Nat) : Int) - i13_5) < (0 : Int))) then
        pdivide_l3 n a0 a1 r45 r48 r53 w10_1 i11_1 r71_2 k_l1 n (w9_23.set ((i11_1 + ((a1.length : Nat) : Int)).toNat) (UInt32.ofInt ((((w9_23.getD ((i11_1 + ((a1.length : Nat) : Int)).toNat) 0).toNat : Nat) : Int) - i13_5))) 0 0
      else
        pdivide_j1 n a0 a1 r45 r48 r53 w10_1 i11_1 k_l1 (w9_23.set ((i11_1 + ((a1.length : Nat) : Int)).toNat) (UInt32.ofInt ((((w9_23.getD ((i11_1 + ((a1.length : Nat) : Int)).toNat) 0).toNat : Nat) : Int) - i13_5))) r71_2
def pdivide_l4 (n : Nat) (a0 : List UInt32) (a1 : List UInt32) (r45 : Int) (r53 : List UInt32 × Nat) (w10_1 : List UInt32) : Nat → List UInt32 → Int → Option (List UInt32 × Nat × List UInt32 × Nat)
  | 0, _, _ => none
  | fu_l4 + 1, w9_27, i175_1 =>
    bif (decide (i175_1 < ((a1.length : Nat) : Int))) then
      gd (0 ≤ i175_1) <|
      gd (i175_1 < ((r53.2 : Nat) : Int)) <|
      gd (0 ≤ r45) <|
      gd (okI .i64 (i175_1 + 1)) <|
      gd (0 ≤ (i175_1 + 1)) <|
      gd ((i175_1 + 1) < ((r53.2 : Nat) : Int)) <|
      gd (okI .i64 (32 - r45)) <|
      gd (0 ≤ (32 - r45)) <|
      gd (0 ≤ i175_1) <|
      gd (i175_1 < ((r53.2 : Nat) : Int)) <|
      gd (okI .i64 (i175_1 + 1)) <|
      (pdivide_l4 n a0 a1 r45 r53 w10_1 fu_l4) (w9_27.set i175_1.toNat ((shr32 (w9_27.getD i175_1.toNat 0) r45) ||| ((shl64 ((w9_27.getD ((i175_1 + 1).toNat) 0).toUInt64) (32 - r45)).toUInt32))) (i175_1 + 1)
    else
      (ptrim n w10_1).bind fun r200_1 =>
      gd (0 ≤ ((a1.length : Nat) : Int)) <|
      gd (((a1.length : Nat) : Int) ≤ ((r53.2 : Nat) : Int)) <|
      (ptrim n ((w9_27.drop 0).take (((a1.length : Nat) : Int).toNat))).bind fun r204_1 =>
      some (((w10_1.drop 0).take r200_1.2), r200_1.2, ((w9_27.drop 0).take r204_1.2), r204_1.2)
def pdivide_l1 (n : Nat) (a0 : List UInt32) (a1 : List UInt32) (r45 : Int) (r48 : List UInt32 × Nat) (r53 : List UInt32 × Nat) : Nat → List UInt32 → List UInt32 → Int → Option (List UInt32 × Nat × List UInt32 × Nat)
  | 0, _, _, _ => none
  | fu_l1 + 1, w9_18, w10_1, i11_1 =>
    bif (decide ((0 : Int) ≤ i11_1)) then
      (pdigit n w9_18 ((r48.1.drop 0).take (((a1.length : Nat) : Int).toNat)) i11_1).bind fun r71_2 =>
      pdivide_l2 n a0 a1 r45 r48 r53 w10_1 i11_1 r71_2 (pdivide_l1 n a0 a1 r45 r48 r53 fu_l1) n w9_18 0 0
    else
      pdivide_l4 n a0 a1 r45 r53 w10_1 n w9_18 0
def pdivide (n : Nat) (a0 : List UInt32) (a1 : List UInt32) : Option (List UInt32 × Nat × List UInt32 × Nat) :=
  (pCmp n a0 a1).bind fun r26 =>
  bif (decide (r26 < (0 : Int))) then
    gd ((a0).length ≤ 1000000000000) <|
    some ([], 0, a0, a0.length)
  else
    bif (((a1.length : Nat) : Int) == 1) then
      gd (0 ≤ (0 : Int)) <|
      gd ((0 : Int) < ((a1.length : Nat) : Int)) <|
      (pshort n a0 (a1.getD 0 0)).bind fun r37 =>
      some (r37.1, r37.2.1, r37.2.2.1, r37.2.2.2)
    else
      gd (okI .i64 (((a1.length : Nat) : Int) - 1)) <|
      gd (0 ≤ (((a1.length : Nat) : Int) - 1)) <|
      gd ((((a1.length : Nat) : Int) - 1) < ((a1.length : Nat) : Int)) <|
      (bclz32 n (a1.getD ((((a1.length : Nat) : Int) - 1).toNat) 0)).bind fun r45 =>
      (pshift n a1 r45).bind fun r48 =>
      gd (0 ≤ ((a1.length : Nat) : Int)) <|
      gd (((a1.length : Nat) : Int) ≤ ((r48.2 : Nat) : Int)) <|
      (pshift n a0 r45).bind fun r53 =>
      gd (okI .i64 (((a0.length : Nat) : Int) - ((a1.length : Nat) : Int))) <|
      gd (okI .i64 ((((a0.length : Nat) : Int) - ((a1.length : Nat) : Int)) + 1)) <|
      gd (0 ≤ ((((a0.length : Nat) : Int) - ((a1.length : Nat) : Int)) + 1)) <|
      gd (((((a0.length : Nat) : Int) - ((a1.length : Nat) : Int)) + 1) = ((((a0.length : Nat) : Int) - ((a1.length : Nat) : Int)) + 1)) <|
      gd (rmB (((((a0.length : Nat) : Int) - ((a1.length : Nat) : Int)) + 1).toNat) 4) <|
      gd (okI .i64 (((a0.length : Nat) : Int) - ((a1.length : Nat) : Int))) <|
      pdivide_l1 n a0 a1 r45 r48 r53 n r53.1 (List.replicate (((((a0.length : Nat) : Int) - ((a1.length : Nat) : Int)) + 1).toNat) 0) (((a0.length : Nat) : Int) - ((a1.length : Nat) : Int))
def ptimes_l2 (n : Nat) (a0 : List UInt32) (a1 : List UInt32) (i19_2 : Int) (k_l1 : (List UInt32) → Int → Option (List UInt32 × Nat)) : Nat → List UInt32 → UInt64 → Int → Option (List UInt32 × Nat)
  | 0, _, _, _ => none
  | fu_l2 + 1, w5_11, y8_8, i26_8 =>
    bif (decide (i26_8 < ((a1.length : Nat) : Int))) then
      gd (0 ≤ i26_8) <|
      gd (i26_8 < ((a1.length : Nat) : Int)) <|
      gd (okI .i64 (i19_2 + i26_8)) <|
      gd (0 ≤ (i19_2 + i26_8)) <|
      gd ((i19_2 + i26_8) < (((((a0.length : Nat) : Int) + ((a1.length : Nat) : Int)).toNat : Nat) : Int)) <|
      gd (okI .i64 (i19_2 + i26_8)) <|
      gd (0 ≤ (32 : Int)) <|
      gd (0 ≤ (i19_2 + i26_8)) <|
      gd ((i19_2 + i26_8) < (((((a0.length : Nat) : Int) + ((a1.length : Nat) : Int)).toNat : Nat) : Int)) <|
      gd (okI .i64 (i26_8 + 1)) <|
      (ptimes_l2 n a0 a1 i19_2 k_l1 fu_l2) (w5_11.set ((i19_2 + i26_8).toNat) ((y8_8 + ((((a0.getD i19_2.toNat 0).toUInt64) * ((a1.getD i26_8.toNat 0).toUInt64)) + ((w5_11.getD ((i19_2 + i26_8).toNat) 0).toUInt64))).toUInt32)) (shr64 (y8_8 + ((((a0.getD i19_2.toNat 0).toUInt64) * ((a1.getD i26_8.toNat 0).toUInt64)) + ((w5_11.getD ((i19_2 + i26_8).toNat) 0).toUInt64))) 32) (i26_8 + 1)
    else
      gd (okI .i64 (i19_2 + ((a1.length : Nat) : Int))) <|
      gd (0 ≤ (i19_2 + ((a1.length : Nat) : Int))) <|
      gd ((i19_2 + ((a1.length : Nat) : Int)) < (((((a0.length : Nat) : Int) + ((a1.length : Nat) : Int)).toNat : Nat) : Int)) <|
      gd (okI .i64 (i19_2 + 1)) <|
      k_l1 (w5_11.set ((i19_2 + ((a1.length : Nat) : Int)).toNat) y8_8.toUInt32) (i19_2 + 1)
def ptimes_l1 (n : Nat) (a0 : List UInt32) (a1 : List UInt32) : Nat → List UInt32 → Int → Option (List UInt32 × Nat)
  | 0, _, _ => none
  | fu_l1 + 1, w5_9, i19_2 =>
    bif (decide (i19_2 < ((a0.length : Nat) : Int))) then
      gd (0 ≤ i19_2) <|
      gd (i19_2 < ((a0.length : Nat) : Int)) <|
      ptimes_l2 n a0 a1 i19_2 (ptimes_l1 n a0 a1 fu_l1) n w5_9 0 0
    else
      (ptrim n w5_9).bind fun r66_2 =>
      some (((w5_9.drop 0).take r66_2.2), r66_2.2)
def ptimes (n : Nat) (a0 : List UInt32) (a1 : List UInt32) : Option (List UInt32 × Nat) :=
  gd (okI .i64 (((a0.length : Nat) : Int) + ((a1.length : Nat) : Int))) <|
  gd (0 ≤ (((a0.length : Nat) : Int) + ((a1.length : Nat) : Int))) <|
  gd ((((a0.length : Nat) : Int) + ((a1.length : Nat) : Int)) = (((a0.length : Nat) : Int) + ((a1.length : Nat) : Int))) <|
  gd (rmB ((((a0.length : Nat) : Int) + ((a1.length : Nat) : Int)).toNat) 4) <|
  ptimes_l1 n a0 a1 n (List.replicate ((((a0.length : Nat) : Int) + ((a1.length : Nat) : Int)).toNat) 0) 0
def prest (n : Nat) (a0 : List UInt32) (a1 : List UInt32) (a2 : List UInt32) : Option (List UInt32 × Nat) :=
  (ptimes n a0 a1).bind fun r12 =>
  (pdivide n r12.1 a2).bind fun r14 =>
  some (r14.2.2.1, r14.2.2.2)
def pExp_j1 (n : Nat) (r17 : List UInt32 × Nat × List UInt32 × Nat × Bool) (r23 : List UInt32 × Nat × List UInt32 × Nat × Bool) (i13_1 : Int) (k_l1 : (List UInt32) → Nat → Int → Option (List UInt32 × Option Int)) (w12_7 : List UInt32) (m12_7 : Nat) : Option (List UInt32 × Option Int) :=
  gd (okI .i64 (i13_1 - 1)) <|
  k_l1 w12_7 m12_7 (i13_1 - 1)
def pExp_l1 (n : Nat) (r17 : List UInt32 × Nat × List UInt32 × Nat × Bool) (r23 : List UInt32 × Nat × List UInt32 × Nat × Bool) : Nat → List UInt32 → Nat → Int → Option (List UInt32 × Option Int)
  | 0, _, _, _ => none
  | fu_l1 + 1, w12_5, m12_5, i13_1 =>
    bif (decide ((0 : Int) ≤ i13_1)) then
      (prest n w12_5 w12_5 r23.1).bind fun r57_2 =>
      gd ((32 : Int) ≠ 0) <|
      gd (okI .i64 (Int.tdiv i13_1 32)) <|
      gd (0 ≤ (Int.tdiv i13_1 32)) <|
      gd ((Int.tdiv i13_1 32) < ((r17.2.2.2.1 : Nat) : Int)) <|
      gd ((32 : Int) ≠ 0) <|
      gd (0 ≤ (Int.tmod i13_1 32)) <|
      bif (((shr32 (r17.2.2.1.getD ((Int.tdiv i13_1 32).toNat) 0) (Int.tmod i13_1 32)) &&& (1 : UInt32)) == 1) then
        (prest n r57_2.1 r17.1 r23.1).bind fun r71_2 =>
        pExp_j1 n r17 r23 i13_1 (pExp_l1 n r17 r23 fu_l1) r71_2.1 r71_2.2
      else
        pExp_j1 n r17 r23 i13_1 (pExp_l1 n r17 r23 fu_l1) r57_2.1 r57_2.2
    else
      gd ((w12_5).length ≤ 1000000000000) <|
      some (w12_5, none)
def pExp (n : Nat) (a0 : List UInt32) (a1 : List UInt32) (a2 : List UInt32) : Option (List UInt32 × Option Int) :=
  (pmay n a0 a1).bind fun r17 =>
  (pmay n a2 []).bind fun r23 =>
  bif (!r17.2.2.2.2) then
    some ([], (some 4))
  else
    bif (!r23.2.2.2.2) then
      some ([], (some 4))
    else
      bif (((r23.2.1 : Nat) : Int) == 0) then
        some ([], (some 1))
      else
        (pdivide n [1] r23.1).bind fun r43 =>
        gd (okI .i64 (32 * ((r17.2.2.2.1 : Nat) : Int))) <|
        gd (okI .i64 ((32 * ((r17.2.2.2.1 : Nat) : Int)) - 1)) <|
        pExp_l1 n r17 r23 n r43.2.2.1 r43.2.2.2 ((32 * ((r17.2.2.2.1 : Nat) : Int)) - 1)
def pat (n : Nat) (a0 : List UInt32) (a1 : Int) : Option (UInt64) :=
  bif (decide (a1 < ((a0.length : Nat) : Int))) then
    gd (0 ≤ a1) <|
    gd (a1 < ((a0.length : Nat) : Int)) <|
    some ((a0.getD a1.toNat 0).toUInt64)
  else
    some 0
def pless_l1 (n : Nat) (a0 : List UInt32) (a1 : List UInt32) : Nat → List UInt32 → UInt64 → Int → Option (List UInt32 × Nat)
  | 0, _, _, _ => none
  | fu_l1 + 1, w5_2, y6_2, i14_2 =>
    bif (decide (i14_2 < ((((a0.length : Nat) : Int).toNat : Nat) : Int))) then
      (pat n a0 i14_2).bind fun r19_3 =>
      (pat n a1 i14_2).bind fun r22_3 =>
      gd (0 ≤ (63 : Int)) <|
      gd (0 ≤ i14_2) <|
      gd (i14_2 < ((((a0.length : Nat) : Int).toNat : Nat) : Int)) <|
      gd (okI .i64 (i14_2 + 1)) <|
      (pless_l1 n a0 a1 fu_l1) (w5_2.set i14_2.toNat (((r19_3 - r22_3) - y6_2).toUInt32)) (shr64 ((r19_3 - r22_3) - y6_2) 63) (i14_2 + 1)
    else
      (ptrim n w5_2).bind fun r35_2 =>
      some (((w5_2.drop 0).take r35_2.2), r35_2.2)
def pless (n : Nat) (a0 : List UInt32) (a1 : List UInt32) : Option (List UInt32 × Nat) :=
  gd (0 ≤ ((a0.length : Nat) : Int)) <|
  gd (((a0.length : Nat) : Int) = ((a0.length : Nat) : Int)) <|
  gd (rmB (((a0.length : Nat) : Int).toNat) 4) <|
  pless_l1 n a0 a1 n (List.replicate (((a0.length : Nat) : Int).toNat) 0) 0 0
def pless2 (n : Nat) (a0 : List UInt32) (a1 : List UInt32) (a2 : List UInt32) : Option (List UInt32 × Nat) :=
  (pCmp n a0 a1).bind fun r9 =>
  bif (decide ((0 : Int) ≤ r9)) then
    (pless n a0 a1).bind fun r13 =>
    some (r13.1, r13.2)
  else
    (pless n a1 a0).bind fun r17 =>
    (pless n a2 r17.1).bind fun r18 =>
    some (r18.1, r18.2)
def pInv_j1 (n : Nat) (w9_7 : List UInt32) (m9_7 : Nat) (w10_7 : List UInt32) (m10_4 : Nat) : Option (List UInt32 × Option Int) :=
  (pCmp n w9_7 [1]).bind fun r67_1 =>
  bif (r67_1 != 0) then
    some ([], (some 13))
  else
    gd ((w10_7).length ≤ 1000000000000) <|
    some (w10_7, none)
def pInv_l1 (n : Nat) (r18 : List UInt32 × Nat × List UInt32 × Nat × Bool) : Nat → List UInt32 → Nat → List UInt32 → Nat → List UInt32 → Nat → List UInt32 → Nat → Option (List UInt32 × Option Int)
  | 0, _, _, _, _, _, _, _, _ => none
  | fu_l1 + 1, w8_7, m8_7, w9_9, m9_9, w10_9, m10_5, w11_7, m11_7 =>
    bif (decide ((0 : Int) < ((m8_7 : Nat) : Int))) then
      (pdivide n w9_9 w8_7).bind fun r51_8 =>
      (prest n r51_8.1 w11_7 r18.2.2.1).bind fun r58_8 =>
      (pless2 n w10_9 r58_8.1 r18.2.2.1).bind fun r60_8 =>
      (pInv_l1 n r18 fu_l1) r51_8.2.2.1 r51_8.2.2.2 w8_7 m8_7 w11_7 m11_7 r60_8.1 r60_8.2
    else
      pInv_j1 n w9_9 m9_9 w10_9 m10_5
def pInv (n : Nat) (a0 : List UInt32) (a1 : List UInt32) : Option (List UInt32 × Option Int) :=
  (pmay n a0 a1).bind fun r18 =>
  bif (!r18.2.2.2.2) then
    some ([], (some 4))
  else
    bif (((r18.2.2.2.1 : Nat) : Int) == 0) then
      some ([], (some 1))
    else
      (pCmp n r18.2.2.1 [1]).bind fun r33 =>
      bif (r33 == 0) then
        some ([], (some 1))
      else
        (pdivide n r18.1 r18.2.2.1).bind fun r40 =>
        pInv_l1 n r18 n r40.2.2.1 r40.2.2.2 r18.2.2.1 r18.2.2.2.1 [] 0 [1] 1
def ptrim_l1_E (a0 : List UInt32) (m0n_2 : Nat) : S := ⟨[(0, .c (.sl 0 0 m0n_2))], [(1000000, .c (.wh 0))], [⟨(.ro false), 47, 1, a0.length, .w a0⟩]⟩
def ptrim_l1_P (n : Nat) (a0 : List UInt32) (r : List UInt32 × Nat) (fu : Nat) : S → Prop := fun s => ∃ (m0n_2 : Nat), s = ptrim_l1_E a0 m0n_2 ∧ ptrim_l1 n a0 fu m0n_2 = some r
theorem ptrim_l1_M {n : Nat} {a0 : List UInt32} {m0n_2 : Nat} {r : List UInt32 × Nat} {fu : Nat} (h : ptrim_l1 n a0 fu m0n_2 = some r) : ptrim_l1_P n a0 r fu (ptrim_l1_E a0 m0n_2) := ⟨m0n_2, rfl, h⟩
def ptrim_R (r : List UInt32 × Nat) : S := ⟨[(2, .c (.sl 0 0 r.2))], [(1000000, .c (.wh 0))], [⟨(.ro false), 47, 1, r.1.length, .w r.1⟩]⟩
def ptrim_ct (n : Nat) (r : List UInt32 × Nat) : Ct := fun args H => match args with
  | [x0] => (match aW H x0 with | some l0 => (match subC 0 r.2 x0 with | some ys => some ([ptrim n l0 = some r], ys, []) | none => none) | none => none)
  | _ => none
theorem ptrim_ok (n : Nat) (r : List UInt32 × Nat) : FnOk Try.prog Tr 44 (ptrim_ct n r) := by
  refine ⟨fun args H g av objs hF hg ρ w vals hG hp ha => ?_, _, Try.func44, by kernel_rfl, by kernel_rfl⟩
  obtain ⟨x0, rfl⟩ : ∃ x0, args = [x0] := by
    unfold ptrim_ct at hF; split at hF
    · exact ⟨_, rfl⟩
    · cases hF
  cases e0 : aW H x0 with
  | none => simp only [ptrim_ct, e0, reduceCtorEq] at hF
  | some l0 =>
  cases e1 : subC 0 r.2 x0 with
  | none => simp only [ptrim_ct, e0, e1, reduceCtorEq] at hF
  | some ys =>
  simp only [ptrim_ct, e0, e1, Option.some.injEq, Prod.mk.injEq] at hF
  obtain ⟨rfl, rfl, rfl⟩ := hF
  obtain ⟨v0, vals, rfl, k0, ha⟩ := F2.inv ha
  obtain rfl := F2.inv0 ha
  have hI : ∀ w', Kp (noB (fun j => ([v0] : List Value).getD j undef)) w w' → Tr w' := fun _ hk => Tr.keep hk.below hG
  have h : ptrim n l0 = some r := hg
  obtain ⟨p0, s0, o0⟩ := aW_ok hp e0 (k0) 47
  have kk := k0
  have zz := aW_sz hp e0
  have hR0 := rel0 (gv := (fun j => ([v0] : List Value).getD j undef)) (n := 21) (w := w) (args := [.c (.wh 0)]) (H := [⟨.ro false, 47, 1, l0.length, .w l0⟩]) (gl := [(1000000, .c (.wh 0))]) (hpL (ps := [p0]) (F2.cons o0 F2.nil)) (allRo_ok rfl) (F2.cons s0 F2.nil) (GlR.cons 0 s0 GlR.nil) (by simp)
  clear ha hp hg k0 e0
  refine calls_W Try.func44 rfl rfl hR0 (Q := fun e s => (e = .ret ∨ e = .normal) ∧ s = ptrim_R r) ?_ ?_
  · clear hR0
    unfold ptrim at h
    have hT := tabO_ra
    refine W_seq ?_
    refine W_reg hT ftL_nil [] [] [0] [0] (s' := ⟨[(0, .c (.wh 0))], [(1000000, .c (.wh 0))], [⟨(.ro false), 47, 1, l0.length, .w l0⟩]⟩) (by kernel_rfl) allP_nil ?_
    refine W_seq ?_
    refine W_block ?_
    refine W_co [.sb 0] [0] [0] (s' := (ptrim_l1_E l0 l0.length)) (by kernel_rfl) (W_lp ((ptrim_l1_P n l0 r)) n (ptrim_l1_M h) ?_)
    rintro fu_l1 _ ⟨m0n_2, rfl, h⟩
    cases fu_l1 with
    | zero => cases h
    | succ fu_l1 =>
      refine ⟨fu_l1, rfl, ?_⟩
      rw [ptrim_l1] at h
      refine W_seq ?_
      refine W_seq ?_
      rcases Bool.eq_false_or_eq_true (decide ((0 : Int) < ((m0n_2 : Nat) : Int))) with g1 | g1
      · replace h := bif_t h g1
        obtain ⟨g2, h⟩ := gd_some h
        obtain ⟨g3, h⟩ := gd_some h
        obtain ⟨g4, h⟩ := gd_some h
        refine W_reg hT ftL_nil [(3, true)] [] [0, 14] [0] (s' := ⟨[(0, .c (.sl 0 0 m0n_2)), (14, .c (.s (.b ((l0.getD ((((m0n_2 : Nat) : Int) - 1).toNat) 0) == 0))))], [(1000000, .c (.wh 0))], [⟨(.ro false), 47, 1, l0.length, .w l0⟩]⟩) (by kernel_rfl) (allP_cons.2 ⟨g1, (allP_cons.2 ⟨g2, (allP_cons.2 ⟨g3, (allP_cons.2 ⟨g4, allP_nil⟩)⟩)⟩)⟩) ?_
        refine W_cond (b := ((l0.getD ((((m0n_2 : Nat) : Int) - 1).toNat) 0) == 0)) (by kernel_rfl) (fun g8 => ?_) (fun g8 => ?_)
        · replace h := bif_t h g8
          refine W_co [] [0] [0] (s' := ⟨[(0, .c (.sl 0 0 m0n_2))], [(1000000, .c (.wh 0))], [⟨(.ro false), 47, 1, l0.length, .w l0⟩]⟩) (by kernel_rfl) (W_skip ?_)
          refine W_block ?_
          obtain ⟨g5, h⟩ := gd_some h
          obtain ⟨g6, h⟩ := gd_some h
          obtain ⟨g7, h⟩ := gd_some h
          refine W_reg hT ftL_nil [] [] [0] [0] (s' := (ptrim_l1_E l0 ((((m0n_2 : Nat) : Int) - 1).toNat))) (by kernel_rfl) (allP_cons.2 ⟨g5, (allP_cons.2 ⟨g6, (allP_cons.2 ⟨g7, allP_nil⟩)⟩)⟩) ?_
          exact ptrim_l1_M h
        · replace h := bif_f h g8
          refine W_co [] [0] [0] (s' := ⟨[(0, .c (.sl 0 0 m0n_2))], [(1000000, .c (.wh 0))], [⟨(.ro false), 47, 1, l0.length, .w l0⟩]⟩) (by kernel_rfl) (W_exit ?_)
          refine W_seq ?_
          refine W_reg hT ftL_nil [] [] [2] [0] (s' := ⟨[(2, .c (.sl 0 0 m0n_2))], [(1000000, .c (.wh 0))], [⟨(.ro false), 47, 1, l0.length, .w l0⟩]⟩) (by kernel_rfl) allP_nil ?_
          refine W_co [] [2] [0] (s' := (ptrim_R (l0, m0n_2))) (by kernel_rfl) (W_ret ?_)
          exact ⟨.inl rfl, by cases h; rfl⟩
      · replace h := bif_f h g1
        refine W_reg hT ftL_nil [(3, false)] [] [0, 14] [0] (s' := ⟨[(0, .c (.sl 0 0 m0n_2)), (14, .c (.s (.b false)))], [(1000000, .c (.wh 0))], [⟨(.ro false), 47, 1, l0.length, .w l0⟩]⟩) (by kernel_rfl) (allP_cons.2 ⟨g1, allP_nil⟩) ?_
        refine W_cond (b := false) (by kernel_rfl) (fun hb => by cases hb) (fun _ => ?_)
        refine W_co [] [0] [0] (s' := ⟨[(0, .c (.sl 0 0 m0n_2))], [(1000000, .c (.wh 0))], [⟨(.ro false), 47, 1, l0.length, .w l0⟩]⟩) (by kernel_rfl) (W_exit ?_)
        refine W_seq ?_
        refine W_reg hT ftL_nil [] [] [2] [0] (s' := ⟨[(2, .c (.sl 0 0 m0n_2))], [(1000000, .c (.wh 0))], [⟨(.ro false), 47, 1, l0.length, .w l0⟩]⟩) (by kernel_rfl) allP_nil ?_
        refine W_co [] [2] [0] (s' := (ptrim_R (l0, m0n_2))) (by kernel_rfl) (W_ret ?_)
        exact ⟨.inl rfl, by cases h; rfl⟩
  · rintro e s' ⟨he, rfl⟩
    refine ⟨he, fun a' w' hr => ?_⟩
    exact retB_ok (q := 0) hr rfl rfl rfl (by kernel_rfl) kk zz e1
def pmay_R (r : List UInt32 × Nat × List UInt32 × Nat × Bool) : S := ⟨[(4, .c (.wh 0)), (5, .c (.wh 1)), (6, .c (.s (.b r.2.2.2.2)))], [], [⟨(.ro false), 47, 1, r.2.1, .w r.1⟩, ⟨(.ro false), 47, 1, r.2.2.2.1, .w r.2.2.1⟩]⟩
def pmay_ct (n : Nat) (r : List UInt32 × Nat × List UInt32 × Nat × Bool) : Ct := fun args H => match args with
  | [x0, x1] => (match aW H x0 with | some l0 => (match aW H x1 with | some l1 => some ([pmay n l0 l1 = some r], shA H.length (.t [.c (.wh 0), .c (.wh 1), .c (.s (.b r.2.2.2.2))]), shH H.length [⟨(.ro false), 47, 1, r.2.1, .w r.1⟩, ⟨(.ro false), 47, 1, r.2.2.2.1, .w r.2.2.1⟩]) | none => none) | none => none)
  | _ => none
theorem pmay_ok (n : Nat) (r : List UInt32 × Nat × List UInt32 × Nat × Bool) : FnOk Try.prog Tr 47 (pmay_ct n r) := by
  refine ⟨fun args H g av objs hF hg ρ w vals hG hp ha => ?_, _, Try.func47, by kernel_rfl, by kernel_rfl⟩
  obtain ⟨x0, x1, rfl⟩ : ∃ x0 x1, args = [x0, x1] := by
    unfold pmay_ct at hF; split at hF
    · exact ⟨_, _, rfl⟩
    · cases hF
  cases e0 : aW H x0 with
  | none => simp only [pmay_ct, e0, reduceCtorEq] at hF
  | some l0 =>
  cases e1 : aW H x1 with
  | none => simp only [pmay_ct, e0, e1, reduceCtorEq] at hF
  | some l1 =>
  simp only [pmay_ct, e0, e1, Option.some.injEq, Prod.mk.injEq] at hF
  obtain ⟨rfl, rfl, rfl⟩ := hF
  obtain ⟨v0, vals, rfl, k0, ha⟩ := F2.inv ha
  obtain ⟨v1, vals, rfl, k1, ha⟩ := F2.inv ha
  obtain rfl := F2.inv0 ha
  have hI : ∀ w', Kp (noB (fun _ => undef)) w w' → Tr w' := fun _ hk => Tr.keep hk.below hG
  have h : pmay n l0 l1 = some r := hg
  obtain ⟨p0, s0, o0⟩ := aW_ok hp e0 (k0) 47
  obtain ⟨p1, s1, o1⟩ := aW_ok hp e1 (k1) 47
  have hR0 := rel0 (gv := (fun _ => undef)) (n := 21) (w := w) (args := [.c (.wh 0), .c (.wh 1)]) (H := [⟨.ro false, 47, 1, l0.length, .w l0⟩, ⟨.ro false, 47, 1, l1.length, .w l1⟩]) (gl := []) (hpL (ps := [p0, p1]) (F2.cons o0 (F2.cons o1 F2.nil))) (allRo_ok rfl) (F2.cons s0 (F2.cons s1 F2.nil)) GlR.nil (by simp)
  clear ha hp hg k0 k1 e0 e1
  refine calls_W Try.func47 rfl rfl hR0 (Q := fun e s => (e = .ret ∨ e = .normal) ∧ s = pmay_R r) ?_ ?_
  · clear hR0
    unfold pmay at h
    have hT := tabO_ra
    refine W_seq ?_
    refine W_reg hT ftL_nil [] [] [0, 1] [0, 1] (s' := ⟨[(0, .c (.wh 0)), (1, .c (.wh 1))], [], [⟨(.ro false), 47, 1, l0.length, .w l0⟩, ⟨(.ro false), 47, 1, l1.length, .w l1⟩]⟩) (by kernel_rfl) allP_nil ?_
    refine W_seq ?_
    obtain ⟨r8, g1, h⟩ := bind_some' h
    obtain ⟨r10, g2, h⟩ := bind_some' h
    refine W_reg hT (ftL_cons (k := 1) (f := 44) (F := (ptrim_ct n r8)) (ptrim_ok n r8) (fun _ _ => True.intro) (ftL_cons (k := 3) (f := 44) (F := (ptrim_ct n r10)) (ptrim_ok n r10) (fun _ _ => True.intro) ftL_nil)) [] [] [0, 1] [0, 1] (s' := ⟨[(0, .c (.sl 0 0 r8.2)), (1, .c (.sl 1 0 r10.2))], [], [⟨(.ro false), 47, 1, l0.length, .w l0⟩, ⟨(.ro false), 47, 1, l1.length, .w l1⟩]⟩) (by kernel_rfl) (allP_cons.2 ⟨g1, (allP_cons.2 ⟨g2, allP_nil⟩)⟩) ?_
    refine W_seq ?_
    rcases Bool.eq_false_or_eq_true (decide (((r8.2 : Nat) : Int) ≤ (64 : Int))) with g3 | g3
    · replace h := bif_t h g3
      refine W_reg hT ftL_nil [(5, true)] [] [4, 5, 6] [0, 1] (s' := ⟨[(4, .c (.sl 0 0 r8.2)), (5, .c (.sl 1 0 r10.2)), (6, .c (.s (.b (decide (((r10.2 : Nat) : Int) ≤ (64 : Int))))))], [], [⟨(.ro false), 47, 1, l0.length, .w l0⟩, ⟨(.ro false), 47, 1, l1.length, .w l1⟩]⟩) (by kernel_rfl) (allP_cons.2 ⟨g3, allP_nil⟩) ?_
      refine W_co [.vw 4 false, .vw 5 false] [4, 5, 6] [2, 3] (s' := (pmay_R (((l0.drop 0).take r8.2), r8.2, ((l1.drop 0).take r10.2), r10.2, (decide (((r10.2 : Nat) : Int) ≤ (64 : Int)))))) (by kernel_rfl) (W_ret ?_)
      exact ⟨.inl rfl, by cases h; rfl⟩
    · replace h := bif_f h g3
      refine W_reg hT ftL_nil [(5, false)] [] [4, 5, 6] [0, 1] (s' := ⟨[(4, .c (.sl 0 0 r8.2)), (5, .c (.sl 1 0 r10.2)), (6, .c (.s (.b false)))], [], [⟨(.ro false), 47, 1, l0.length, .w l0⟩, ⟨(.ro false), 47, 1, l1.length, .w l1⟩]⟩) (by kernel_rfl) (allP_cons.2 ⟨g3, allP_nil⟩) ?_
      refine W_co [.vw 4 false, .vw 5 false] [4, 5, 6] [2, 3] (s' := (pmay_R (((l0.drop 0).take r8.2), r8.2, ((l1.drop 0).take r10.2), r10.2, false))) (by kernel_rfl) (W_ret ?_)
      exact ⟨.inl rfl, by cases h; rfl⟩
  · rintro e s' ⟨he, rfl⟩
    refine ⟨he, fun a' w' hr => ?_⟩
    exact retS_ok tabO_ra hr (rs := [.tmp 4, .tmp 5, .tmp 6]) rfl (objs := [0, 1]) (by kernel_rfl)
def cisNaN_R (r : Bool) : S := ⟨[(2, .c (.s (.b r)))], [], []⟩
def cisNaN_ct (n : Nat) (r : Bool) : Ct := fun args H => match args with
  | [x0] => (match aI x0 with | some l0 => some ([cisNaN n l0 = some r], shA H.length (.c (.s (.b r))), shH H.length []) | none => none)
  | _ => none
theorem cisNaN_ok (n : Nat) (r : Bool) : FnOk Try.prog Tr 56 (cisNaN_ct n r) := by
  refine ⟨fun args H g av objs hF hg ρ w vals hG hp ha => ?_, _, Try.func56, by kernel_rfl, by kernel_rfl⟩
  obtain ⟨x0, rfl⟩ : ∃ x0, args = [x0] := by
    unfold cisNaN_ct at hF; split at hF
    · exact ⟨_, rfl⟩
    · cases hF
  cases e0 : aI x0 with
  | none => simp only [cisNaN_ct, e0, reduceCtorEq] at hF
  | some l0 =>
  simp only [cisNaN_ct, e0, Option.some.injEq, Prod.mk.injEq] at hF
  obtain ⟨rfl, rfl, rfl⟩ := hF
  obtain ⟨v0, vals, rfl, k0, ha⟩ := F2.inv ha
  obtain rfl := F2.inv0 ha
  have hI : ∀ w', Kp (noB (fun _ => undef)) w w' → Tr w' := fun _ hk => Tr.keep hk.below hG
  have h : cisNaN n l0 = some r := hg
  have s0 := aI_ok e0 (k0)
  have hR0 := rel0 (gv := (fun _ => undef)) (n := 6) (w := w) (args := [.c (.s (.k .i64 l0))]) (H := []) (gl := []) (hpL (ps := []) F2.nil) (allRo_ok rfl) (F2.cons s0 F2.nil) GlR.nil (by simp)
  clear ha hp hg k0 e0
  refine calls_W Try.func56 rfl rfl hR0 (Q := fun e s => (e = .ret ∨ e = .normal) ∧ s = cisNaN_R r) ?_ ?_
  · clear hR0
    unfold cisNaN at h
    have hT := tabO_ra
    refine W_seq ?_
    refine W_reg hT ftL_nil [] [] [0] [] (s' := ⟨[(0, .c (.s (.k .i64 l0)))], [], []⟩) (by kernel_rfl) allP_nil ?_
    refine W_seq ?_
    refine W_reg hT ftL_nil [] [] [2] [] (s' := ⟨[(2, .c (.s (.b (l0 != l0))))], [], []⟩) (by kernel_rfl) allP_nil ?_
    refine W_co [] [2] [] (s' := (cisNaN_R (l0 != l0))) (by kernel_rfl) (W_ret ?_)
    exact ⟨.inl rfl, by cases h; rfl⟩
  · rintro e s' ⟨he, rfl⟩
    refine ⟨he, fun a' w' hr => ?_⟩
    exact retS_ok tabO_ra hr (rs := [.tmp 2]) rfl (objs := []) (by kernel_rfl)
def cCmp_R (r : Int) : S := ⟨[(4, .c (.s (.k .i64 r)))], [], []⟩
def cCmp_ct (n : Nat) (r : Int) : Ct := fun args H => match args with
  | [x0, x1] => (match aI x0 with | some l0 => (match aI x1 with | some l1 => some ([cCmp n l0 l1 = some r], shA H.length (.c (.s (.k .i64 r))), shH H.length []) | none => none) | none => none)
  | _ => none
theorem cCmp_ok (n : Nat) (r : Int) : FnOk Try.prog Tr 45 (cCmp_ct n r) := by
  refine ⟨fun args H g av objs hF hg ρ w vals hG hp ha => ?_, _, Try.func45, by kernel_rfl, by kernel_rfl⟩
  obtain ⟨x0, x1, rfl⟩ : ∃ x0 x1, args = [x0, x1] := by
    unfold cCmp_ct at hF; split at hF
    · exact ⟨_, _, rfl⟩
    · cases hF
  cases e0 : aI x0 with
  | none => simp only [cCmp_ct, e0, reduceCtorEq] at hF
  | some l0 =>
  cases e1 : aI x1 with
  | none => simp only [cCmp_ct, e0, e1, reduceCtorEq] at hF
  | some l1 =>
  simp only [cCmp_ct, e0, e1, Option.some.injEq, Prod.mk.injEq] at hF
  obtain ⟨rfl, rfl, rfl⟩ := hF
  obtain ⟨v0, vals, rfl, k0, ha⟩ := F2.inv ha
  obtain ⟨v1, vals, rfl, k1, ha⟩ := F2.inv ha
  obtain rfl := F2.inv0 ha
  have hI : ∀ w', Kp (noB (fun _ => undef)) w w' → Tr w' := fun _ hk => Tr.keep hk.below hG
  have h : cCmp n l0 l1 = some r := hg
  have s0 := aI_ok e0 (k0)
  have s1 := aI_ok e1 (k1)
  have hR0 := rel0 (gv := (fun _ => undef)) (n := 20) (w := w) (args := [.c (.s (.k .i64 l0)), .c (.s (.k .i64 l1))]) (H := []) (gl := []) (hpL (ps := []) F2.nil) (allRo_ok rfl) (F2.cons s0 (F2.cons s1 F2.nil)) GlR.nil (by simp)
  clear ha hp hg k0 k1 e0 e1
  refine calls_W Try.func45 rfl rfl hR0 (Q := fun e s => (e = .ret ∨ e = .normal) ∧ s = cCmp_R r) ?_ ?_
  · clear hR0
    unfold cCmp at h
    have hT := tabO_ra
    refine W_seq ?_
    refine W_reg hT ftL_nil [] [] [0, 1] [] (s' := ⟨[(0, .c (.s (.k .i64 l0))), (1, .c (.s (.k .i64 l1)))], [], []⟩) (by kernel_rfl) allP_nil ?_
    refine W_seq ?_
    obtain ⟨r8, g1, h⟩ := bind_some' h
    refine W_reg hT (ftL_cons (k := 1) (f := 56) (F := (cisNaN_ct n r8)) (cisNaN_ok n r8) (fun _ _ => True.intro) ftL_nil) [] [] [0, 1, 5] [] (s' := ⟨[(0, .c (.s (.k .i64 l0))), (1, .c (.s (.k .i64 l1))), (5, .c (.s (.b r8)))], [], []⟩) (by kernel_rfl) (allP_cons.2 ⟨g1, allP_nil⟩) ?_
    refine W_seq ?_
    obtain ⟨r10, g2, h⟩ := bind_some' h
    refine W_reg hT (ftL_cons (k := 1) (f := 56) (F := (cisNaN_ct n r10)) (cisNaN_ok n r10) (fun _ _ => True.intro) ftL_nil) [] [] [0, 1, 5, 6] [] (s' := ⟨[(0, .c (.s (.k .i64 l0))), (1, .c (.s (.k .i64 l1))), (5, .c (.s (.b r8))), (6, .c (.s (.b r10)))], [], []⟩) (by kernel_rfl) (allP_cons.2 ⟨g2, allP_nil⟩) ?_
    refine W_seq ?_
    refine W_seq ?_
    refine W_reg hT ftL_nil [] [] [0, 1, 6, 11] [] (s' := ⟨[(0, .c (.s (.k .i64 l0))), (1, .c (.s (.k .i64 l1))), (6, .c (.s (.b r10))), (11, .c (.s (.b r8)))], [], []⟩) (by kernel_rfl) allP_nil ?_
    refine W_cond (b := r8) (by kernel_rfl) (fun g7 => ?_) (fun g7 => ?_)
    · replace h := bif_t h g7
      refine W_seq ?_
      refine W_seq ?_
      refine W_reg hT ftL_nil [] [] [12] [] (s' := ⟨[(12, .c (.s (.b r10)))], [], []⟩) (by kernel_rfl) allP_nil ?_
      refine W_cond (b := r10) (by kernel_rfl) (fun g3 => ?_) (fun g3 => ?_)
      · replace h := bif_t h g3
        refine W_seq ?_
        refine W_reg hT ftL_nil [] [] [4] [] (s' := ⟨[(4, .c (.s (.k .i64 0)))], [], []⟩) (by kernel_rfl) allP_nil ?_
        refine W_co [] [4] [] (s' := (cCmp_R 0)) (by kernel_rfl) (W_ret ?_)
        exact ⟨.inl rfl, by cases h; rfl⟩
      · replace h := bif_f h g3
        refine W_co [] [] [] (s' := ⟨[], [], []⟩) (by kernel_rfl) (W_skip ?_)
        refine W_seq ?_
        refine W_reg hT ftL_nil [] [] [4] [] (s' := ⟨[(4, .c (.s (.k .i64 (-1))))], [], []⟩) (by kernel_rfl) allP_nil ?_
        refine W_co [] [4] [] (s' := (cCmp_R (-1))) (by kernel_rfl) (W_ret ?_)
        exact ⟨.inl rfl, by cases h; rfl⟩
    · replace h := bif_f h g7
      refine W_co [] [0, 1, 6] [] (s' := ⟨[(0, .c (.s (.k .i64 l0))), (1, .c (.s (.k .i64 l1))), (6, .c (.s (.b r10)))], [], []⟩) (by kernel_rfl) (W_skip ?_)
      refine W_seq ?_
      refine W_seq ?_
      refine W_reg hT ftL_nil [] [] [0, 1, 13] [] (s' := ⟨[(0, .c (.s (.k .i64 l0))), (1, .c (.s (.k .i64 l1))), (13, .c (.s (.b r10)))], [], []⟩) (by kernel_rfl) allP_nil ?_
      refine W_cond (b := r10) (by kernel_rfl) (fun g6 => ?_) (fun g6 => ?_)
      · replace h := bif_t h g6
        refine W_seq ?_
        refine W_reg hT ftL_nil [] [] [4] [] (s' := ⟨[(4, .c (.s (.k .i64 1)))], [], []⟩) (by kernel_rfl) allP_nil ?_
        refine W_co [] [4] [] (s' := (cCmp_R 1)) (by kernel_rfl) (W_ret ?_)
        exact ⟨.inl rfl, by cases h; rfl⟩
      · replace h := bif_f h g6
        refine W_co [] [0, 1] [] (s' := ⟨[(0, .c (.s (.k .i64 l0))), (1, .c (.s (.k .i64 l1)))], [], []⟩) (by kernel_rfl) (W_skip ?_)
        refine W_seq ?_
        refine W_seq ?_
        refine W_reg hT ftL_nil [] [] [0, 1, 16] [] (s' := ⟨[(0, .c (.s (.k .i64 l0))), (1, .c (.s (.k .i64 l1))), (16, .c (.s (.b (decide (l0 < l1)))))], [], []⟩) (by kernel_rfl) allP_nil ?_
        refine W_cond (b := (decide (l0 < l1))) (by kernel_rfl) (fun g5 => ?_) (fun g5 => ?_)
        · replace h := bif_t h g5
          refine W_seq ?_
          refine W_reg hT ftL_nil [] [] [4] [] (s' := ⟨[(4, .c (.s (.k .i64 (-1))))], [], []⟩) (by kernel_rfl) allP_nil ?_
          refine W_co [] [4] [] (s' := (cCmp_R (-1))) (by kernel_rfl) (W_ret ?_)
          exact ⟨.inl rfl, by cases h; rfl⟩
        · replace h := bif_f h g5
          refine W_co [] [0, 1] [] (s' := ⟨[(0, .c (.s (.k .i64 l0))), (1, .c (.s (.k .i64 l1)))], [], []⟩) (by kernel_rfl) (W_skip ?_)
          refine W_seq ?_
          refine W_seq ?_
          refine W_reg hT ftL_nil [] [] [19] [] (s' := ⟨[(19, .c (.s (.b (decide (l1 < l0)))))], [], []⟩) (by kernel_rfl) allP_nil ?_
          refine W_cond (b := (decide (l1 < l0))) (by kernel_rfl) (fun g4 => ?_) (fun g4 => ?_)
          · replace h := bif_t h g4
            refine W_seq ?_
            refine W_reg hT ftL_nil [] [] [4] [] (s' := ⟨[(4, .c (.s (.k .i64 1)))], [], []⟩) (by kernel_rfl) allP_nil ?_
            refine W_co [] [4] [] (s' := (cCmp_R 1)) (by kernel_rfl) (W_ret ?_)
            exact ⟨.inl rfl, by cases h; rfl⟩
          · replace h := bif_f h g4
            refine W_co [] [] [] (s' := ⟨[], [], []⟩) (by kernel_rfl) (W_skip ?_)
            refine W_seq ?_
            refine W_reg hT ftL_nil [] [] [4] [] (s' := ⟨[(4, .c (.s (.k .i64 0)))], [], []⟩) (by kernel_rfl) allP_nil ?_
            refine W_co [] [4] [] (s' := (cCmp_R 0)) (by kernel_rfl) (W_ret ?_)
            exact ⟨.inl rfl, by cases h; rfl⟩
  · rintro e s' ⟨he, rfl⟩
    refine ⟨he, fun a' w' hr => ?_⟩
    exact retS_ok tabO_ra hr (rs := [.tmp 4]) rfl (objs := []) (by kernel_rfl)
def cisNaN32_R (r : Bool) : S := ⟨[(2, .c (.s (.b r)))], [], []⟩
def cisNaN32_ct (n : Nat) (r : Bool) : Ct := fun args H => match args with
  | [x0] => (match aU32 x0 with | some l0 => some ([cisNaN32 n l0 = some r], shA H.length (.c (.s (.b r))), shH H.length []) | none => none)
  | _ => none
theorem cisNaN32_ok (n : Nat) (r : Bool) : FnOk Try.prog Tr 57 (cisNaN32_ct n r) := by
  refine ⟨fun args H g av objs hF hg ρ w vals hG hp ha => ?_, _, Try.func57, by kernel_rfl, by kernel_rfl⟩
  obtain ⟨x0, rfl⟩ : ∃ x0, args = [x0] := by
    unfold cisNaN32_ct at hF; split at hF
    · exact ⟨_, rfl⟩
    · cases hF
  cases e0 : aU32 x0 with
  | none => simp only [cisNaN32_ct, e0, reduceCtorEq] at hF
  | some l0 =>
  simp only [cisNaN32_ct, e0, Option.some.injEq, Prod.mk.injEq] at hF
  obtain ⟨rfl, rfl, rfl⟩ := hF
  obtain ⟨v0, vals, rfl, k0, ha⟩ := F2.inv ha
  obtain rfl := F2.inv0 ha
  have hI : ∀ w', Kp (noB (fun _ => undef)) w w' → Tr w' := fun _ hk => Tr.keep hk.below hG
  have h : cisNaN32 n l0 = some r := hg
  have s0 := aU32_ok e0 (k0)
  have hR0 := rel0 (gv := (fun _ => undef)) (n := 6) (w := w) (args := [.c (.s (.u32 l0))]) (H := []) (gl := []) (hpL (ps := []) F2.nil) (allRo_ok rfl) (F2.cons s0 F2.nil) GlR.nil (by simp)
  clear ha hp hg k0 e0
  refine calls_W Try.func57 rfl rfl hR0 (Q := fun e s => (e = .ret ∨ e = .normal) ∧ s = cisNaN32_R r) ?_ ?_
  · clear hR0
    unfold cisNaN32 at h
    have hT := tabO_ra
    refine W_seq ?_
    refine W_reg hT ftL_nil [] [] [0] [] (s' := ⟨[(0, .c (.s (.u32 l0)))], [], []⟩) (by kernel_rfl) allP_nil ?_
    refine W_seq ?_
    refine W_reg hT ftL_nil [] [] [2] [] (s' := ⟨[(2, .c (.s (.b (l0 != l0))))], [], []⟩) (by kernel_rfl) allP_nil ?_
    refine W_co [] [2] [] (s' := (cisNaN32_R (l0 != l0))) (by kernel_rfl) (W_ret ?_)
    exact ⟨.inl rfl, by cases h; rfl⟩
  · rintro e s' ⟨he, rfl⟩
    refine ⟨he, fun a' w' hr => ?_⟩
    exact retS_ok tabO_ra hr (rs := [.tmp 2]) rfl (objs := []) (by kernel_rfl)
def cCmp32_R (r : Int) : S := ⟨[(4, .c (.s (.k .i64 r)))], [], []⟩
def cCmp32_ct (n : Nat) (r : Int) : Ct := fun args H => match args with
  | [x0, x1] => (match aU32 x0 with | some l0 => (match aU32 x1 with | some l1 => some ([cCmp32 n l0 l1 = some r], shA H.length (.c (.s (.k .i64 r))), shH H.length []) | none => none) | none => none)
  | _ => none
theorem cCmp32_ok (n : Nat) (r : Int) : FnOk Try.prog Tr 46 (cCmp32_ct n r) := by
  refine ⟨fun args H g av objs hF hg ρ w vals hG hp ha => ?_, _, Try.func46, by kernel_rfl, by kernel_rfl⟩
  obtain ⟨x0, x1, rfl⟩ : ∃ x0 x1, args = [x0, x1] := by
    unfold cCmp32_ct at hF; split at hF
    · exact ⟨_, _, rfl⟩
    · cases hF
  cases e0 : aU32 x0 with
  | none => simp only [cCmp32_ct, e0, reduceCtorEq] at hF
  | some l0 =>
  cases e1 : aU32 x1 with
  | none => simp only [cCmp32_ct, e0, e1, reduceCtorEq] at hF
  | some l1 =>
  simp only [cCmp32_ct, e0, e1, Option.some.injEq, Prod.mk.injEq] at hF
  obtain ⟨rfl, rfl, rfl⟩ := hF
  obtain ⟨v0, vals, rfl, k0, ha⟩ := F2.inv ha
  obtain ⟨v1, vals, rfl, k1, ha⟩ := F2.inv ha
  obtain rfl := F2.inv0 ha
  have hI : ∀ w', Kp (noB (fun _ => undef)) w w' → Tr w' := fun _ hk => Tr.keep hk.below hG
  have h : cCmp32 n l0 l1 = some r := hg
  have s0 := aU32_ok e0 (k0)
  have s1 := aU32_ok e1 (k1)
  have hR0 := rel0 (gv := (fun _ => undef)) (n := 20) (w := w) (args := [.c (.s (.u32 l0)), .c (.s (.u32 l1))]) (H := []) (gl := []) (hpL (ps := []) F2.nil) (allRo_ok rfl) (F2.cons s0 (F2.cons s1 F2.nil)) GlR.nil (by simp)
  clear ha hp hg k0 k1 e0 e1
  refine calls_W Try.func46 rfl rfl hR0 (Q := fun e s => (e = .ret ∨ e = .normal) ∧ s = cCmp32_R r) ?_ ?_
  · clear hR0
    unfold cCmp32 at h
    have hT := tabO_ra
    refine W_seq ?_
    refine W_reg hT ftL_nil [] [] [0, 1] [] (s' := ⟨[(0, .c (.s (.u32 l0))), (1, .c (.s (.u32 l1)))], [], []⟩) (by kernel_rfl) allP_nil ?_
    refine W_seq ?_
    obtain ⟨r8, g1, h⟩ := bind_some' h
    refine W_reg hT (ftL_cons (k := 1) (f := 57) (F := (cisNaN32_ct n r8)) (cisNaN32_ok n r8) (fun _ _ => True.intro) ftL_nil) [] [] [0, 1, 5] [] (s' := ⟨[(0, .c (.s (.u32 l0))), (1, .c (.s (.u32 l1))), (5, .c (.s (.b r8)))], [], []⟩) (by kernel_rfl) (allP_cons.2 ⟨g1, allP_nil⟩) ?_
    refine W_seq ?_
    obtain ⟨r10, g2, h⟩ := bind_some' h
    refine W_reg hT (ftL_cons (k := 1) (f := 57) (F := (cisNaN32_ct n r10)) (cisNaN32_ok n r10) (fun _ _ => True.intro) ftL_nil) [] [] [0, 1, 5, 6] [] (s' := ⟨[(0, .c (.s (.u32 l0))), (1, .c (.s (.u32 l1))), (5, .c (.s (.b r8))), (6, .c (.s (.b r10)))], [], []⟩) (by kernel_rfl) (allP_cons.2 ⟨g2, allP_nil⟩) ?_
    refine W_seq ?_
    refine W_seq ?_
    refine W_reg hT ftL_nil [] [] [0, 1, 6, 11] [] (s' := ⟨[(0, .c (.s (.u32 l0))), (1, .c (.s (.u32 l1))), (6, .c (.s (.b r10))), (11, .c (.s (.b r8)))], [], []⟩) (by kernel_rfl) allP_nil ?_
    refine W_cond (b := r8) (by kernel_rfl) (fun g7 => ?_) (fun g7 => ?_)
    · replace h := bif_t h g7
      refine W_seq ?_
      refine W_seq ?_
      refine W_reg hT ftL_nil [] [] [12] [] (s' := ⟨[(12, .c (.s (.b r10)))], [], []⟩) (by kernel_rfl) allP_nil ?_
      refine W_cond (b := r10) (by kernel_rfl) (fun g3 => ?_) (fun g3 => ?_)
      · replace h := bif_t h g3
        refine W_seq ?_
        refine W_reg hT ftL_nil [] [] [4] [] (s' := ⟨[(4, .c (.s (.k .i64 0)))], [], []⟩) (by kernel_rfl) allP_nil ?_
        refine W_co [] [4] [] (s' := (cCmp32_R 0)) (by kernel_rfl) (W_ret ?_)
        exact ⟨.inl rfl, by cases h; rfl⟩
      · replace h := bif_f h g3
        refine W_co [] [] [] (s' := ⟨[], [], []⟩) (by kernel_rfl) (W_skip ?_)
        refine W_seq ?_
        refine W_reg hT ftL_nil [] [] [4] [] (s' := ⟨[(4, .c (.s (.k .i64 (-1))))], [], []⟩) (by kernel_rfl) allP_nil ?_
        refine W_co [] [4] [] (s' := (cCmp32_R (-1))) (by kernel_rfl) (W_ret ?_)
        exact ⟨.inl rfl, by cases h; rfl⟩
    · replace h := bif_f h g7
      refine W_co [] [0, 1, 6] [] (s' := ⟨[(0, .c (.s (.u32 l0))), (1, .c (.s (.u32 l1))), (6, .c (.s (.b r10)))], [], []⟩) (by kernel_rfl) (W_skip ?_)
      refine W_seq ?_
      refine W_seq ?_
      refine W_reg hT ftL_nil [] [] [0, 1, 13] [] (s' := ⟨[(0, .c (.s (.u32 l0))), (1, .c (.s (.u32 l1))), (13, .c (.s (.b r10)))], [], []⟩) (by kernel_rfl) allP_nil ?_
      refine W_cond (b := r10) (by kernel_rfl) (fun g6 => ?_) (fun g6 => ?_)
      · replace h := bif_t h g6
        refine W_seq ?_
        refine W_reg hT ftL_nil [] [] [4] [] (s' := ⟨[(4, .c (.s (.k .i64 1)))], [], []⟩) (by kernel_rfl) allP_nil ?_
        refine W_co [] [4] [] (s' := (cCmp32_R 1)) (by kernel_rfl) (W_ret ?_)
        exact ⟨.inl rfl, by cases h; rfl⟩
      · replace h := bif_f h g6
        refine W_co [] [0, 1] [] (s' := ⟨[(0, .c (.s (.u32 l0))), (1, .c (.s (.u32 l1)))], [], []⟩) (by kernel_rfl) (W_skip ?_)
        refine W_seq ?_
        refine W_seq ?_
        refine W_reg hT ftL_nil [] [] [0, 1, 16] [] (s' := ⟨[(0, .c (.s (.u32 l0))), (1, .c (.s (.u32 l1))), (16, .c (.s (.b (decide (l0 < l1)))))], [], []⟩) (by kernel_rfl) allP_nil ?_
        refine W_cond (b := (decide (l0 < l1))) (by kernel_rfl) (fun g5 => ?_) (fun g5 => ?_)
        · replace h := bif_t h g5
          refine W_seq ?_
          refine W_reg hT ftL_nil [] [] [4] [] (s' := ⟨[(4, .c (.s (.k .i64 (-1))))], [], []⟩) (by kernel_rfl) allP_nil ?_
          refine W_co [] [4] [] (s' := (cCmp32_R (-1))) (by kernel_rfl) (W_ret ?_)
          exact ⟨.inl rfl, by cases h; rfl⟩
        · replace h := bif_f h g5
          refine W_co [] [0, 1] [] (s' := ⟨[(0, .c (.s (.u32 l0))), (1, .c (.s (.u32 l1)))], [], []⟩) (by kernel_rfl) (W_skip ?_)
          refine W_seq ?_
          refine W_seq ?_
          refine W_reg hT ftL_nil [] [] [19] [] (s' := ⟨[(19, .c (.s (.b (decide (l1 < l0)))))], [], []⟩) (by kernel_rfl) allP_nil ?_
          refine W_cond (b := (decide (l1 < l0))) (by kernel_rfl) (fun g4 => ?_) (fun g4 => ?_)
          · replace h := bif_t h g4
            refine W_seq ?_
            refine W_reg hT ftL_nil [] [] [4] [] (s' := ⟨[(4, .c (.s (.k .i64 1)))], [], []⟩) (by kernel_rfl) allP_nil ?_
            refine W_co [] [4] [] (s' := (cCmp32_R 1)) (by kernel_rfl) (W_ret ?_)
            exact ⟨.inl rfl, by cases h; rfl⟩
          · replace h := bif_f h g4
            refine W_co [] [] [] (s' := ⟨[], [], []⟩) (by kernel_rfl) (W_skip ?_)
            refine W_seq ?_
            refine W_reg hT ftL_nil [] [] [4] [] (s' := ⟨[(4, .c (.s (.k .i64 0)))], [], []⟩) (by kernel_rfl) allP_nil ?_
            refine W_co [] [4] [] (s' := (cCmp32_R 0)) (by kernel_rfl) (W_ret ?_)
            exact ⟨.inl rfl, by cases h; rfl⟩
  · rintro e s' ⟨he, rfl⟩
    refine ⟨he, fun a' w' hr => ?_⟩
    exact retS_ok tabO_ra hr (rs := [.tmp 4]) rfl (objs := []) (by kernel_rfl)
def pCmp_l1_E (a0 : List UInt32) (a1 : List UInt32) (r9 : List UInt32 × Nat) (r11 : List UInt32 × Nat) (i6_2 : Int) : S := ⟨[(0, .c (.wh 0)), (1, .c (.wh 1)), (6, .c (.s (.k .i64 i6_2)))], [], [⟨(.ro false), 47, 1, r9.2, .w ((a0.drop 0).take r9.2)⟩, ⟨(.ro false), 47, 1, r11.2, .w ((a1.drop 0).take r11.2)⟩]⟩
def pCmp_l1_P (n : Nat) (a0 : List UInt32) (a1 : List UInt32) (r9 : List UInt32 × Nat) (r11 : List UInt32 × Nat) (r : Int) (fu : Nat) : S → Prop := fun s => ∃ (i6_2 : Int), s = pCmp_l1_E a0 a1 r9 r11 i6_2 ∧ pCmp_l1 n a0 a1 r9 r11 fu i6_2 = some r
theorem pCmp_l1_M {n : Nat} {a0 : List UInt32} {a1 : List UInt32} {r9 : List UInt32 × Nat} {r11 : List UInt32 × Nat} {i6_2 : Int} {r : Int} {fu : Nat} (h : pCmp_l1 n a0 a1 r9 r11 fu i6_2 = some r) : pCmp_l1_P n a0 a1 r9 r11 r fu (pCmp_l1_E a0 a1 r9 r11 i6_2) := ⟨i6_2, rfl, h⟩
def pCmp_R (r : Int) : S := ⟨[(4, .c (.s (.k .i64 r)))], [], []⟩
def pCmp_ct (n : Nat) (r : Int) : Ct := fun args H => match args with
  | [x0, x1] => (match aW H x0 with | some l0 => (match aW H x1 with | some l1 => some ([pCmp n l0 l1 = some r], shA H.length (.c (.s (.k .i64 r))), shH H.length []) | none => none) | none => none)
  | _ => none
theorem pCmp_ok (n : Nat) (r : Int) : FnOk Try.prog Tr 32 (pCmp_ct n r) := by
  refine ⟨fun args H g av objs hF hg ρ w vals hG hp ha => ?_, _, Try.func32, by kernel_rfl, by kernel_rfl⟩
  obtain ⟨x0, x1, rfl⟩ : ∃ x0 x1, args = [x0, x1] := by
    unfold pCmp_ct at hF; split at hF
    · exact ⟨_, _, rfl⟩
    · cases hF
  cases e0 : aW H x0 with
  | none => simp only [pCmp_ct, e0, reduceCtorEq] at hF
  | some l0 =>
  cases e1 : aW H x1 with
  | none => simp only [pCmp_ct, e0, e1, reduceCtorEq] at hF
  | some l1 =>
  simp only [pCmp_ct, e0, e1, Option.some.injEq, Prod.mk.injEq] at hF
  obtain ⟨rfl, rfl, rfl⟩ := hF
  obtain ⟨v0, vals, rfl, k0, ha⟩ := F2.inv ha
  obtain ⟨v1, vals, rfl, k1, ha⟩ := F2.inv ha
  obtain rfl := F2.inv0 ha
  have hI : ∀ w', Kp (noB (fun _ => undef)) w w' → Tr w' := fun _ hk => Tr.keep hk.below hG
  have h : pCmp n l0 l1 = some r := hg
  obtain ⟨p0, s0, o0⟩ := aW_ok hp e0 (k0) 47
  obtain ⟨p1, s1, o1⟩ := aW_ok hp e1 (k1) 47
  have hR0 := rel0 (gv := (fun _ => undef)) (n := 39) (w := w) (args := [.c (.wh 0), .c (.wh 1)]) (H := [⟨.ro false, 47, 1, l0.length, .w l0⟩, ⟨.ro false, 47, 1, l1.length, .w l1⟩]) (gl := []) (hpL (ps := [p0, p1]) (F2.cons o0 (F2.cons o1 F2.nil))) (allRo_ok rfl) (F2.cons s0 (F2.cons s1 F2.nil)) GlR.nil (by simp)
  clear ha hp hg k0 k1 e0 e1
  refine calls_W Try.func32 rfl rfl hR0 (Q := fun e s => (e = .ret ∨ e = .normal) ∧ s = pCmp_R r) ?_ ?_
  · clear hR0
    unfold pCmp at h
    have hT := tabO_ra
    refine W_seq ?_
    refine W_reg hT ftL_nil [] [] [0, 1] [0, 1] (s' := ⟨[(0, .c (.wh 0)), (1, .c (.wh 1))], [], [⟨(.ro false), 47, 1, l0.length, .w l0⟩, ⟨(.ro false), 47, 1, l1.length, .w l1⟩]⟩) (by kernel_rfl) allP_nil ?_
    refine W_seq ?_
    obtain ⟨r9, g1, h⟩ := bind_some' h
    obtain ⟨r11, g2, h⟩ := bind_some' h
    refine W_reg hT (ftL_cons (k := 1) (f := 44) (F := (ptrim_ct n r9)) (ptrim_ok n r9) (fun _ _ => True.intro) (ftL_cons (k := 3) (f := 44) (F := (ptrim_ct n r11)) (ptrim_ok n r11) (fun _ _ => True.intro) ftL_nil)) [] [] [0, 1] [0, 1] (s' := ⟨[(0, .c (.sl 0 0 r9.2)), (1, .c (.sl 1 0 r11.2))], [], [⟨(.ro false), 47, 1, l0.length, .w l0⟩, ⟨(.ro false), 47, 1, l1.length, .w l1⟩]⟩) (by kernel_rfl) (allP_cons.2 ⟨g1, (allP_cons.2 ⟨g2, allP_nil⟩)⟩) ?_
    refine W_seq ?_
    refine W_seq ?_
    obtain ⟨r16, g3, h⟩ := bind_some' h
    refine W_reg hT (ftL_cons (k := 4) (f := 45) (F := (cCmp_ct n r16)) (cCmp_ok n r16) (fun _ _ => True.intro) ftL_nil) [] [] [0, 1, 5] [0, 1] (s' := ⟨[(0, .c (.sl 0 0 r9.2)), (1, .c (.sl 1 0 r11.2)), (5, .c (.s (.k .i64 r16)))], [], [⟨(.ro false), 47, 1, l0.length, .w l0⟩, ⟨(.ro false), 47, 1, l1.length, .w l1⟩]⟩) (by kernel_rfl) (allP_cons.2 ⟨g3, allP_nil⟩) ?_
    refine W_seq ?_
    refine W_reg hT ftL_nil [] [] [0, 1, 5, 18] [0, 1] (s' := ⟨[(0, .c (.sl 0 0 r9.2)), (1, .c (.sl 1 0 r11.2)), (5, .c (.s (.k .i64 r16))), (18, .c (.s (.b (r16 != 0))))], [], [⟨(.ro false), 47, 1, l0.length, .w l0⟩, ⟨(.ro false), 47, 1, l1.length, .w l1⟩]⟩) (by kernel_rfl) allP_nil ?_
    refine W_cond (b := (r16 != 0)) (by kernel_rfl) (fun g13 => ?_) (fun g13 => ?_)
    · replace h := bif_t h g13
      refine W_seq ?_
      refine W_reg hT ftL_nil [] [] [4] [] (s' := ⟨[(4, .c (.s (.k .i64 r16)))], [], []⟩) (by kernel_rfl) allP_nil ?_
      refine W_co [] [4] [] (s' := (pCmp_R r16)) (by kernel_rfl) (W_ret ?_)
      exact ⟨.inl rfl, by cases h; rfl⟩
    · replace h := bif_f h g13
      refine W_co [] [0, 1] [0, 1] (s' := ⟨[(0, .c (.sl 0 0 r9.2)), (1, .c (.sl 1 0 r11.2))], [], [⟨(.ro false), 47, 1, l0.length, .w l0⟩, ⟨(.ro false), 47, 1, l1.length, .w l1⟩]⟩) (by kernel_rfl) (W_skip ?_)
      refine W_seq ?_
      refine W_seq ?_
      obtain ⟨g4, h⟩ := gd_some h
      refine W_reg hT ftL_nil [] [] [0, 1, 6] [0, 1] (s' := ⟨[(0, .c (.sl 0 0 r9.2)), (1, .c (.sl 1 0 r11.2)), (6, .c (.s (.k .i64 (((r9.2 : Nat) : Int) - 1))))], [], [⟨(.ro false), 47, 1, l0.length, .w l0⟩, ⟨(.ro false), 47, 1, l1.length, .w l1⟩]⟩) (by kernel_rfl) (allP_cons.2 ⟨g4, allP_nil⟩) ?_
      refine W_block ?_
      refine W_co [.vw 0 false, .vw 1 false] [0, 1, 6] [2, 3] (s' := (pCmp_l1_E l0 l1 r9 r11 (((r9.2 : Nat) : Int) - 1))) (by kernel_rfl) (W_lp ((pCmp_l1_P n l0 l1 r9 r11 r)) n (pCmp_l1_M h) ?_)
      rintro fu_l1 _ ⟨i6_2, rfl, h⟩
      cases fu_l1 with
      | zero => cases h
      | succ fu_l1 =>
        refine ⟨fu_l1, rfl, ?_⟩
        rw [pCmp_l1] at h
        refine W_seq ?_
        refine W_seq ?_
        refine W_reg hT ftL_nil [] [] [0, 1, 6, 24] [0, 1] (s' := ⟨[(0, .c (.wh 0)), (1, .c (.wh 1)), (6, .c (.s (.k .i64 i6_2))), (24, .c (.s (.b (decide ((0 : Int) ≤ i6_2)))))], [], [⟨(.ro false), 47, 1, r9.2, .w ((l0.drop 0).take r9.2)⟩, ⟨(.ro false), 47, 1, r11.2, .w ((l1.drop 0).take r11.2)⟩]⟩) (by kernel_rfl) allP_nil ?_
        refine W_cond (b := (decide ((0 : Int) ≤ i6_2))) (by kernel_rfl) (fun g12 => ?_) (fun g12 => ?_)
        · replace h := bif_t h g12
          refine W_co [] [0, 1, 6] [0, 1] (s' := ⟨[(0, .c (.wh 0)), (1, .c (.wh 1)), (6, .c (.s (.k .i64 i6_2)))], [], [⟨(.ro false), 47, 1, r9.2, .w ((l0.drop 0).take r9.2)⟩, ⟨(.ro false), 47, 1, r11.2, .w ((l1.drop 0).take r11.2)⟩]⟩) (by kernel_rfl) (W_skip ?_)
          refine W_seq ?_
          refine W_block ?_
          refine W_seq ?_
          obtain ⟨g5, h⟩ := gd_some h
          obtain ⟨g6, h⟩ := gd_some h
          obtain ⟨g7, h⟩ := gd_some h
          obtain ⟨g8, h⟩ := gd_some h
          obtain ⟨r35_3, g9, h⟩ := bind_some' h
          refine W_regD hT (ftL_cons (k := 8) (f := 46) (F := (cCmp32_ct n r35_3)) (cCmp32_ok n r35_3) (fun _ _ => True.intro) ftL_nil) (by kernel_rfl) 8 [] [(0, false), (1, false), (6, false), (30, false), (34, false)] [] [0, 1, 6, 7] [0, 1] (s' := ⟨[(0, .c (.wh 0)), (1, .c (.wh 1)), (6, .c (.s (.k .i64 i6_2))), (7, .c (.s (.k .i64 r35_3)))], [], [⟨(.ro false), 47, 1, r9.2, .w ((l0.drop 0).take r9.2)⟩, ⟨(.ro false), 47, 1, r11.2, .w ((l1.drop 0).take r11.2)⟩]⟩) (by kernel_rfl) (by kernel_rfl) (allP_cons.2 ⟨g5, (allP_cons.2 ⟨g6, (allP_cons.2 ⟨g7, (allP_cons.2 ⟨g8, (allP_cons.2 ⟨g9, allP_nil⟩)⟩)⟩)⟩)⟩) ?_
          refine W_seq ?_
          refine W_reg hT ftL_nil [] [] [0, 1, 6, 7, 37] [0, 1] (s' := ⟨[(0, .c (.wh 0)), (1, .c (.wh 1)), (6, .c (.s (.k .i64 i6_2))), (7, .c (.s (.k .i64 r35_3))), (37, .c (.s (.b (r35_3 != 0))))], [], [⟨(.ro false), 47, 1, r9.2, .w ((l0.drop 0).take r9.2)⟩, ⟨(.ro false), 47, 1, r11.2, .w ((l1.drop 0).take r11.2)⟩]⟩) (by kernel_rfl) allP_nil ?_
          refine W_cond (b := (r35_3 != 0)) (by kernel_rfl) (fun g11 => ?_) (fun g11 => ?_)
          · replace h := bif_t h g11
            refine W_seq ?_
            refine W_reg hT ftL_nil [] [] [4] [] (s' := ⟨[(4, .c (.s (.k .i64 r35_3)))], [], []⟩) (by kernel_rfl) allP_nil ?_
            refine W_co [] [4] [] (s' := (pCmp_R r35_3)) (by kernel_rfl) (W_ret ?_)
            exact ⟨.inl rfl, by cases h; rfl⟩
          · replace h := bif_f h g11
            refine W_co [] [0, 1, 6] [0, 1] (s' := ⟨[(0, .c (.wh 0)), (1, .c (.wh 1)), (6, .c (.s (.k .i64 i6_2)))], [], [⟨(.ro false), 47, 1, r9.2, .w ((l0.drop 0).take r9.2)⟩, ⟨(.ro false), 47, 1, r11.2, .w ((l1.drop 0).take r11.2)⟩]⟩) (by kernel_rfl) (W_skip ?_)
            obtain ⟨g10, h⟩ := gd_some h
            refine W_reg hT ftL_nil [] [] [0, 1, 6] [0, 1] (s' := (pCmp_l1_E l0 l1 r9 r11 (i6_2 - 1))) (by kernel_rfl) (allP_cons.2 ⟨g10, allP_nil⟩) ?_
            exact pCmp_l1_M h
        · replace h := bif_f h g12
          refine W_co [] [] [] (s' := ⟨[], [], []⟩) (by kernel_rfl) (W_exit ?_)
          refine W_seq ?_
          refine W_reg hT ftL_nil [] [] [4] [] (s' := ⟨[(4, .c (.s (.k .i64 0)))], [], []⟩) (by kernel_rfl) allP_nil ?_
          refine W_co [] [4] [] (s' := (pCmp_R 0)) (by kernel_rfl) (W_ret ?_)
          exact ⟨.inl rfl, by cases h; rfl⟩
  · rintro e s' ⟨he, rfl⟩
    refine ⟨he, fun a' w' hr => ?_⟩
    exact retS_ok tabO_ra hr (rs := [.tmp 4]) rfl (objs := []) (by kernel_rfl)
def pshort_l1_E (a0 : List UInt32) (a1 : UInt32) (w6_1 : List UInt32) (y7_1 : UInt64) (i8_1 : Int) : S := ⟨[(0, .c (.wh 0)), (1, .c (.s (.u32 a1))), (6, .c (.wh 1)), (7, .c (.s (.u64 y7_1))), (8, .c (.s (.k .i64 i8_1)))], [], [⟨(.ro false), 47, 1, a0.length, .w a0⟩, ⟨.row, 47, 1, ((a0.length : Nat) : Int).toNat, .w w6_1⟩]⟩
def pshort_l1_P (n : Nat) (a0 : List UInt32) (a1 : UInt32) (r : List UInt32 × Nat × List UInt32 × Nat) (fu : Nat) : S → Prop := fun s => ∃ (w6_1 : List UInt32), ∃ (y7_1 : UInt64), ∃ (i8_1 : Int), s = pshort_l1_E a0 a1 w6_1 y7_1 i8_1 ∧ pshort_l1 n a0 a1 fu w6_1 y7_1 i8_1 = some r
theorem pshort_l1_M {n : Nat} {a0 : List UInt32} {a1 : UInt32} {w6_1 : List UInt32} {y7_1 : UInt64} {i8_1 : Int} {r : List UInt32 × Nat × List UInt32 × Nat} {fu : Nat} (h : pshort_l1 n a0 a1 fu w6_1 y7_1 i8_1 = some r) : pshort_l1_P n a0 a1 r fu (pshort_l1_E a0 a1 w6_1 y7_1 i8_1) := ⟨w6_1, y7_1, i8_1, rfl, h⟩
def pshort_R (r : List UInt32 × Nat × List UInt32 × Nat) : S := ⟨[(4, .c (.wh 0)), (5, .c (.wh 1))], [], [⟨(.ro true), 47, 1, r.2.1, .w r.1⟩, ⟨(.ro true), 47, 1, r.2.2.2, .w r.2.2.1⟩]⟩
def pshort_ct (n : Nat) (r : List UInt32 × Nat × List UInt32 × Nat) : Ct := fun args H => match args with
  | [x0, x1] => (match aW H x0 with | some l0 => (match aU32 x1 with | some l1 => some ([pshort n l0 l1 = some r], shA H.length (.t [.c (.wh 0), .c (.wh 1)]), shH H.length [⟨(.ro true), 47, 1, r.2.1, .w r.1⟩, ⟨(.ro true), 47, 1, r.2.2.2, .w r.2.2.1⟩]) | none => none) | none => none)
  | _ => none
theorem pshort_ok (n : Nat) (r : List UInt32 × Nat × List UInt32 × Nat) : FnOk Try.prog Tr 58 (pshort_ct n r) := by
  refine ⟨fun args H g av objs hF hg ρ w vals hG hp ha => ?_, _, Try.func58, by kernel_rfl, by kernel_rfl⟩
  obtain ⟨x0, x1, rfl⟩ : ∃ x0 x1, args = [x0, x1] := by
    unfold pshort_ct at hF; split at hF
    · exact ⟨_, _, rfl⟩
    · cases hF
  cases e0 : aW H x0 with
  | none => simp only [pshort_ct, e0, reduceCtorEq] at hF
  | some l0 =>
  cases e1 : aU32 x1 with
  | none => simp only [pshort_ct, e0, e1, reduceCtorEq] at hF
  | some l1 =>
  simp only [pshort_ct, e0, e1, Option.some.injEq, Prod.mk.injEq] at hF
  obtain ⟨rfl, rfl, rfl⟩ := hF
  obtain ⟨v0, vals, rfl, k0, ha⟩ := F2.inv ha
  obtain ⟨v1, vals, rfl, k1, ha⟩ := F2.inv ha
  obtain rfl := F2.inv0 ha
  have hI : ∀ w', Kp (noB (fun _ => undef)) w w' → Tr w' := fun _ hk => Tr.keep hk.below hG
  have h : pshort n l0 l1 = some r := hg
  obtain ⟨p0, s0, o0⟩ := aW_ok hp e0 (k0) 47
  have s1 := aU32_ok e1 (k1)
  have hR0 := rel0 (gv := (fun _ => undef)) (n := 45) (w := w) (args := [.c (.wh 0), .c (.s (.u32 l1))]) (H := [⟨.ro false, 47, 1, l0.length, .w l0⟩]) (gl := []) (hpL (ps := [p0]) (F2.cons o0 F2.nil)) (allRo_ok rfl) (F2.cons s0 (F2.cons s1 F2.nil)) GlR.nil (by simp)
  clear ha hp hg k0 k1 e0 e1
  refine calls_W Try.func58 rfl rfl hR0 (Q := fun e s => (e = .ret ∨ e = .normal) ∧ s = pshort_R r) ?_ ?_
  · clear hR0
    unfold pshort at h
    have hT := tabO_ra
    refine W_seq ?_
    refine W_reg hT ftL_nil [] [] [0, 1] [0] (s' := ⟨[(0, .c (.wh 0)), (1, .c (.s (.u32 l1)))], [], [⟨(.ro false), 47, 1, l0.length, .w l0⟩]⟩) (by kernel_rfl) allP_nil ?_
    refine W_seq ?_
    obtain ⟨g1, h⟩ := gd_some h
    obtain ⟨g2, h⟩ := gd_some h
    obtain ⟨g3, h⟩ := gd_some h
    refine W_reg hT ftL_nil [] [] [0, 1, 6, 7] [0, 1] (s' := ⟨[(0, .c (.wh 0)), (1, .c (.s (.u32 l1))), (6, .c (.wh 1)), (7, .c (.s (.u64 0)))], [], [⟨(.ro false), 47, 1, l0.length, .w l0⟩, ⟨.row, 47, 1, ((l0.length : Nat) : Int).toNat, .w (List.replicate (((l0.length : Nat) : Int).toNat) 0)⟩]⟩) (by kernel_rfl) (allP_cons.2 ⟨g1, (allP_cons.2 ⟨g2, (allP_cons.2 ⟨g3, allP_nil⟩)⟩)⟩) ?_
    refine W_seq ?_
    refine W_seq ?_
    obtain ⟨g4, h⟩ := gd_some h
    refine W_reg hT ftL_nil [] [] [0, 1, 6, 7, 8] [0, 1] (s' := ⟨[(0, .c (.wh 0)), (1, .c (.s (.u32 l1))), (6, .c (.wh 1)), (7, .c (.s (.u64 0))), (8, .c (.s (.k .i64 (((l0.length : Nat) : Int) - 1))))], [], [⟨(.ro false), 47, 1, l0.length, .w l0⟩, ⟨.row, 47, 1, ((l0.length : Nat) : Int).toNat, .w (List.replicate (((l0.length : Nat) : Int).toNat) 0)⟩]⟩) (by kernel_rfl) (allP_cons.2 ⟨g4, allP_nil⟩) ?_
    refine W_block ?_
    refine W_co [] [0, 1, 6, 7, 8] [0, 1] (s' := (pshort_l1_E l0 l1 (List.replicate (((l0.length : Nat) : Int).toNat) 0) 0 (((l0.length : Nat) : Int) - 1))) (by kernel_rfl) (W_lp ((pshort_l1_P n l0 l1 r)) n (pshort_l1_M h) ?_)
    rintro fu_l1 _ ⟨w6_1, y7_1, i8_1, rfl, h⟩
    cases fu_l1 with
    | zero => cases h
    | succ fu_l1 =>
      refine ⟨fu_l1, rfl, ?_⟩
      rw [pshort_l1] at h
      refine W_seq ?_
      refine W_seq ?_
      refine W_reg hT ftL_nil [] [] [0, 1, 6, 7, 8, 16] [0, 1] (s' := ⟨[(0, .c (.wh 0)), (1, .c (.s (.u32 l1))), (6, .c (.wh 1)), (7, .c (.s (.u64 y7_1))), (8, .c (.s (.k .i64 i8_1))), (16, .c (.s (.b (decide ((0 : Int) ≤ i8_1)))))], [], [⟨(.ro false), 47, 1, l0.length, .w l0⟩, ⟨.row, 47, 1, ((l0.length : Nat) : Int).toNat, .w w6_1⟩]⟩) (by kernel_rfl) allP_nil ?_
      refine W_cond (b := (decide ((0 : Int) ≤ i8_1))) (by kernel_rfl) (fun g15 => ?_) (fun g15 => ?_)
      · replace h := bif_t h g15
        refine W_co [] [0, 1, 6, 7, 8] [0, 1] (s' := ⟨[(0, .c (.wh 0)), (1, .c (.s (.u32 l1))), (6, .c (.wh 1)), (7, .c (.s (.u64 y7_1))), (8, .c (.s (.k .i64 i8_1)))], [], [⟨(.ro false), 47, 1, l0.length, .w l0⟩, ⟨.row, 47, 1, ((l0.length : Nat) : Int).toNat, .w w6_1⟩]⟩) (by kernel_rfl) (W_skip ?_)
        refine W_seq ?_
        refine W_block ?_
        refine W_seq ?_
        obtain ⟨g5, h⟩ := gd_some h
        obtain ⟨g6, h⟩ := gd_some h
        obtain ⟨g7, h⟩ := gd_some h
        refine W_reg hT ftL_nil [] [] [0, 1, 6, 7, 8] [0, 1] (s' := ⟨[(0, .c (.wh 0)), (1, .c (.s (.u32 l1))), (6, .c (.wh 1)), (7, .c (.s (.u64 ((shl64 y7_1 32) ||| ((l0.getD i8_1.toNat 0).toUInt64))))), (8, .c (.s (.k .i64 i8_1)))], [], [⟨(.ro false), 47, 1, l0.length, .w l0⟩, ⟨.row, 47, 1, ((l0.length : Nat) : Int).toNat, .w w6_1⟩]⟩) (by kernel_rfl) (allP_cons.2 ⟨g5, (allP_cons.2 ⟨g6, (allP_cons.2 ⟨g7, allP_nil⟩)⟩)⟩) ?_
        obtain ⟨g8, h⟩ := gd_some h
        obtain ⟨g9, h⟩ := gd_some h
        obtain ⟨g10, h⟩ := gd_some h
        obtain ⟨g11, h⟩ := gd_some h
        refine W_regT hT ftL_nil (by kernel_rfl) 13 1 [] [] [0, 1, 6, 7, 8] [0, 1] (s' := ⟨[(0, .c (.wh 0)), (1, .c (.s (.u32 l1))), (6, .c (.wh 1)), (7, .c (.s (.u64 (((shl64 y7_1 32) ||| ((l0.getD i8_1.toNat 0).toUInt64)) % l1.toUInt64)))), (8, .c (.s (.k .i64 i8_1)))], [], [⟨(.ro false), 47, 1, l0.length, .w l0⟩, ⟨.row, 47, 1, ((l0.length : Nat) : Int).toNat, .w (w6_1.set i8_1.toNat ((((shl64 y7_1 32) ||| ((l0.getD i8_1.toNat 0).toUInt64)) / l1.toUInt64).toUInt32))⟩]⟩) (by kernel_rfl) (by kernel_rfl) (allP_cons.2 ⟨g8, (allP_cons.2 ⟨g9, (allP_cons.2 ⟨g10, (allP_cons.2 ⟨g11, allP_nil⟩)⟩)⟩)⟩) ?_
        obtain ⟨g12, h⟩ := gd_some h
        refine W_reg hT ftL_nil [] [] [0, 1, 6, 7, 8] [0, 1] (s' := (pshort_l1_E l0 l1 (w6_1.set i8_1.toNat ((((shl64 y7_1 32) ||| ((l0.getD i8_1.toNat 0).toUInt64)) / l1.toUInt64).toUInt32)) (((shl64 y7_1 32) ||| ((l0.getD i8_1.toNat 0).toUInt64)) % l1.toUInt64) (i8_1 - 1))) (by kernel_rfl) (allP_cons.2 ⟨g12, allP_nil⟩) ?_
        exact pshort_l1_M h
      · replace h := bif_f h g15
        refine W_co [] [6, 7] [1] (s' := ⟨[(6, .c (.wh 0)), (7, .c (.s (.u64 y7_1)))], [], [⟨.row, 47, 1, ((l0.length : Nat) : Int).toNat, .w w6_1⟩]⟩) (by kernel_rfl) (W_exit ?_)
        refine W_seq ?_
        obtain ⟨r40_1, g13, h⟩ := bind_some' h
        obtain ⟨r44_1, g14, h⟩ := bind_some' h
        refine W_reg hT (ftL_cons (k := 1) (f := 44) (F := (ptrim_ct n r40_1)) (ptrim_ok n r40_1) (fun _ _ => True.intro) (ftL_cons (k := 5) (f := 44) (F := (ptrim_ct n r44_1)) (ptrim_ok n r44_1) (fun _ _ => True.intro) ftL_nil)) [] [] [4, 5] [0, 1] (s' := ⟨[(4, .c (.sl 0 0 r40_1.2)), (5, .c (.sl 1 0 r44_1.2))], [], [⟨.row, 47, 1, ((l0.length : Nat) : Int).toNat, .w w6_1⟩, ⟨.row, 47, 1, 1, .w [y7_1.toUInt32]⟩]⟩) (by kernel_rfl) (allP_cons.2 ⟨g13, (allP_cons.2 ⟨g14, allP_nil⟩)⟩) ?_
        refine W_co [.vw 4 true, .vw 5 true] [4, 5] [2, 3] (s' := (pshort_R (((w6_1.drop 0).take r40_1.2), r40_1.2, (([y7_1.toUInt32].drop 0).take r44_1.2), r44_1.2))) (by kernel_rfl) (W_ret ?_)
        exact ⟨.inl rfl, by cases h; rfl⟩
  · rintro e s' ⟨he, rfl⟩
    refine ⟨he, fun a' w' hr => ?_⟩
    exact retS_ok tabO_ra hr (rs := [.tmp 4, .tmp 5]) rfl (objs := [0, 1]) (by kernel_rfl)
def blen32_j2_E (x0_3 : UInt32) (i2_4 : Int) : S := ⟨[(0, .c (.s (.u32 x0_3))), (2, .c (.s (.k .i64 i2_4)))], [], []⟩
def blen32_j2_P (n : Nat) (r : Int) : S → Prop := fun s => ∃ (x0_3 : UInt32), ∃ (i2_4 : Int), s = blen32_j2_E x0_3 i2_4 ∧ blen32_j2 n x0_3 i2_4 = some r
theorem blen32_j2_M {n : Nat} {x0_3 : UInt32} {i2_4 : Int} {r : Int} (h : blen32_j2 n x0_3 i2_4 = some r) : blen32_j2_P n r (blen32_j2_E x0_3 i2_4) := ⟨x0_3, i2_4, rfl, h⟩
def blen32_j1_E (x0_2 : UInt32) (i2_3 : Int) : S := ⟨[(0, .c (.s (.u32 x0_2))), (2, .c (.s (.k .i64 i2_3)))], [], []⟩
def blen32_j1_P (n : Nat) (r : Int) : S → Prop := fun s => ∃ (x0_2 : UInt32), ∃ (i2_3 : Int), s = blen32_j1_E x0_2 i2_3 ∧ blen32_j1 n x0_2 i2_3 = some r
theorem blen32_j1_M {n : Nat} {x0_2 : UInt32} {i2_3 : Int} {r : Int} (h : blen32_j1 n x0_2 i2_3 = some r) : blen32_j1_P n r (blen32_j1_E x0_2 i2_3) := ⟨x0_2, i2_3, rfl, h⟩
def blen32_R (r : Int) : S := ⟨[(2, .c (.s (.k .i64 r)))], [], []⟩
def blen32_ct (n : Nat) (r : Int) : Ct := fun args H => match args with
  | [x0] => (match aU32 x0 with | some l0 => some ([blen32 n l0 = some r], shA H.length (.c (.s (.k .i64 r))), shH H.length []) | none => none)
  | _ => none
theorem blen32_ok (n : Nat) (r : Int) : FnOk Try.prog Tr 64 (blen32_ct n r) := by
  refine ⟨fun args H g av objs hF hg ρ w vals hG hp ha => ?_, _, Try.func64, by kernel_rfl, by kernel_rfl⟩
  obtain ⟨x0, rfl⟩ : ∃ x0, args = [x0] := by
    unfold blen32_ct at hF; split at hF
    · exact ⟨_, rfl⟩
    · cases hF
  cases e0 : aU32 x0 with
  | none => simp only [blen32_ct, e0, reduceCtorEq] at hF
  | some l0 =>
  simp only [blen32_ct, e0, Option.some.injEq, Prod.mk.injEq] at hF
  obtain ⟨rfl, rfl, rfl⟩ := hF
  obtain ⟨v0, vals, rfl, k0, ha⟩ := F2.inv ha
  obtain rfl := F2.inv0 ha
  have hI : ∀ w', Kp (noB (fun _ => undef)) w w' → Tr w' := fun _ hk => Tr.keep hk.below hG
  have h : blen32 n l0 = some r := hg
  have s0 := aU32_ok e0 (k0)
  have hR0 := rel0 (gv := (fun _ => undef)) (n := 19) (w := w) (args := [.c (.s (.u32 l0))]) (H := []) (gl := []) (hpL (ps := []) F2.nil) (allRo_ok rfl) (F2.cons s0 F2.nil) GlR.nil (by simp)
  clear ha hp hg k0 e0
  refine calls_W Try.func64 rfl rfl hR0 (Q := fun e s => (e = .ret ∨ e = .normal) ∧ s = blen32_R r) ?_ ?_
  · clear hR0
    unfold blen32 at h
    have hT := tabO_ra
    refine W_seq ?_
    refine W_reg hT ftL_nil [] [] [0, 2] [] (s' := ⟨[(0, .c (.s (.u32 l0))), (2, .c (.s (.k .i64 0)))], [], []⟩) (by kernel_rfl) allP_nil ?_
    refine W_join (blen32_j1_P n r) ?_ ?_
    · rintro _ ⟨x0_2, i2_3, rfl, h⟩
      unfold blen32_j1 at h
      refine W_join (blen32_j2_P n r) ?_ ?_
      · rintro _ ⟨x0_3, i2_4, rfl, h⟩
        unfold blen32_j2 at h
        refine W_seq ?_
        obtain ⟨g1, h⟩ := gd_some h
        obtain ⟨g2, h⟩ := gd_some h
        obtain ⟨g3, h⟩ := gd_some h
        refine W_reg hT ftL_nil [] [] [2] [] (s' := ⟨[(2, .c (.s (.k .i64 (i2_4 + (((([0, 1, 2, 2, 3, 3, 3, 3, 4, 4, 4, 4, 4, 4, 4, 4, 5, 5, 5, 5, 5, 5, 5, 5, 5, 5, 5, 5, 5, 5, 5, 5, 6, 6, 6, 6, 6, 6, 6, 6, 6, 6, 6, 6, 6, 6, 6, 6, 6, 6, 6, 6, 6, 6, 6, 6, 6, 6, 6, 6, 6, 6, 6, 6, 7, 7, 7, 7, 7, 7, 7, 7, 7, 7, 7, 7, 7, 7, 7, 7, 7, 7, 7, 7, 7, 7, 7, 7, 7, 7, 7, 7, 7, 7, 7, 7, 7, 7, 7, 7, 7, 7, 7, 7, 7, 7, 7, 7, 7, 7, 7, 7, 7, 7, 7, 7, 7, 7, 7, 7, 7, 7, 7, 7, 7, 7, 7, 7, 8, 8, 8, 8, 8, 8, 8, 8, 8, 8, 8, 8, 8, 8, 8, 8, 8, 8, 8, 8, 8, 8, 8, 8, 8, 8, 8, 8, 8, 8, 8, 8, 8, 8, 8, 8, 8, 8, 8, 8, 8, 8, 8, 8, 8, 8, 8, 8, 8, 8, 8, 8, 8, 8, 8, 8, 8, 8, 8, 8, 8, 8, 8, 8, 8, 8, 8, 8, 8, 8, 8, 8, 8, 8, 8, 8, 8, 8, 8, 8, 8, 8, 8, 8, 8, 8, 8, 8, 8, 8, 8, 8, 8, 8, 8, 8, 8, 8, 8, 8, 8, 8, 8, 8, 8, 8, 8, 8, 8, 8, 8, 8, 8, 8, 8, 8, 8, 8, 8, 8, 8, 8, 8, 8, 8, 8, 8, 8] : List UInt8).getD (((x0_3.toUInt8.toNat : Nat) : Int).toNat) 0).toNat : Nat) : Int)))))], [], []⟩) (by kernel_rfl) (allP_cons.2 ⟨g1, (allP_cons.2 ⟨g2, (allP_cons.2 ⟨g3, allP_nil⟩)⟩)⟩) ?_
        refine W_co [] [2] [] (s' := (blen32_R (i2_4 + (((([0, 1, 2, 2, 3, 3, 3, 3, 4, 4, 4, 4, 4, 4, 4, 4, 5, 5, 5, 5, 5, 5, 5, 5, 5, 5, 5, 5, 5, 5, 5, 5, 6, 6, 6, 6, 6, 6, 6, 6, 6, 6, 6, 6, 6, 6, 6, 6, 6, 6, 6, 6, 6, 6, 6, 6, 6, 6, 6, 6, 6, 6, 6, 6, 7, 7, 7, 7, 7, 7, 7, 7, 7, 7, 7, 7, 7, 7, 7, 7, 7, 7, 7, 7, 7, 7, 7, 7, 7, 7, 7, 7, 7, 7, 7, 7, 7, 7, 7, 7, 7, 7, 7, 7, 7, 7, 7, 7, 7, 7, 7, 7, 7, 7, 7, 7, 7, 7, 7, 7, 7, 7, 7, 7, 7, 7, 7, 7, 8, 8, 8, 8, 8, 8, 8, 8, 8, 8, 8, 8, 8, 8, 8, 8, 8, 8, 8, 8, 8, 8, 8, 8, 8, 8, 8, 8, 8, 8, 8, 8, 8, 8, 8, 8, 8, 8, 8, 8, 8, 8, 8, 8, 8, 8, 8, 8, 8, 8, 8, 8, 8, 8, 8, 8, 8, 8, 8, 8, 8, 8, 8, 8, 8, 8, 8, 8, 8, 8, 8, 8, 8, 8, 8, 8, 8, 8, 8, 8, 8, 8, 8, 8, 8, 8, 8, 8, 8, 8, 8, 8, 8, 8, 8, 8, 8, 8, 8, 8, 8, 8, 8, 8, 8, 8, 8, 8, 8, 8, 8, 8, 8, 8, 8, 8, 8, 8, 8, 8, 8, 8, 8, 8, 8, 8, 8, 8] : List UInt8).getD (((x0_3.toUInt8.toNat : Nat) : Int).toNat) 0).toNat : Nat) : Int)))) (by kernel_rfl) (W_ret ?_)
        exact ⟨.inl rfl, by cases h; rfl⟩
      · refine W_seq ?_
        refine W_reg hT ftL_nil [] [] [0, 2, 8] [] (s' := ⟨[(0, .c (.s (.u32 x0_2))), (2, .c (.s (.k .i64 i2_3))), (8, .c (.s (.b (decide ((256 : UInt32) ≤ x0_2)))))], [], []⟩) (by kernel_rfl) allP_nil ?_
        refine W_cond (b := (decide ((256 : UInt32) ≤ x0_2))) (by kernel_rfl) (fun g6 => ?_) (fun g6 => ?_)
        · replace h := bif_t h g6
          refine W_seq ?_
          obtain ⟨g4, h⟩ := gd_some h
          refine W_reg hT ftL_nil [] [] [0, 2] [] (s' := ⟨[(0, .c (.s (.u32 (shr32 x0_2 8)))), (2, .c (.s (.k .i64 i2_3)))], [], []⟩) (by kernel_rfl) (allP_cons.2 ⟨g4, allP_nil⟩) ?_
          obtain ⟨g5, h⟩ := gd_some h
          refine W_reg hT ftL_nil [] [] [0, 2] [] (s' := (blen32_j2_E (shr32 x0_2 8) (i2_3 + 8))) (by kernel_rfl) (allP_cons.2 ⟨g5, allP_nil⟩) ?_
          exact blen32_j2_M h
        · replace h := bif_f h g6
          refine W_co [] [0, 2] [] (s' := (blen32_j2_E x0_2 i2_3)) (by kernel_rfl) (W_skip ?_)
          exact blen32_j2_M h
    · refine W_seq ?_
      refine W_reg hT ftL_nil [] [] [0, 2, 4] [] (s' := ⟨[(0, .c (.s (.u32 l0))), (2, .c (.s (.k .i64 0))), (4, .c (.s (.b (decide ((65536 : UInt32) ≤ l0)))))], [], []⟩) (by kernel_rfl) allP_nil ?_
      refine W_cond (b := (decide ((65536 : UInt32) ≤ l0))) (by kernel_rfl) (fun g8 => ?_) (fun g8 => ?_)
      · replace h := bif_t h g8
        refine W_seq ?_
        obtain ⟨g7, h⟩ := gd_some h
        refine W_reg hT ftL_nil [] [] [0] [] (s' := ⟨[(0, .c (.s (.u32 (shr32 l0 16))))], [], []⟩) (by kernel_rfl) (allP_cons.2 ⟨g7, allP_nil⟩) ?_
        refine W_reg hT ftL_nil [] [] [0, 2] [] (s' := (blen32_j1_E (shr32 l0 16) 16)) (by kernel_rfl) allP_nil ?_
        exact blen32_j1_M h
      · replace h := bif_f h g8
        refine W_co [] [0, 2] [] (s' := (blen32_j1_E l0 0)) (by kernel_rfl) (W_skip ?_)
        exact blen32_j1_M h
  · rintro e s' ⟨he, rfl⟩
    refine ⟨he, fun a' w' hr => ?_⟩
    exact retS_ok tabO_ra hr (rs := [.tmp 2]) rfl (objs := []) (by kernel_rfl)
def bclz32_R (r : Int) : S := ⟨[(2, .c (.s (.k .i64 r)))], [], []⟩
def bclz32_ct (n : Nat) (r : Int) : Ct := fun args H => match args with
  | [x0] => (match aU32 x0 with | some l0 => some ([bclz32 n l0 = some r], shA H.length (.c (.s (.k .i64 r))), shH H.length []) | none => none)
  | _ => none
theorem bclz32_ok (n : Nat) (r : Int) : FnOk Try.prog Tr 59 (bclz32_ct n r) := by
  refine ⟨fun args H g av objs hF hg ρ w vals hG hp ha => ?_, _, Try.func59, by kernel_rfl, by kernel_rfl⟩
  obtain ⟨x0, rfl⟩ : ∃ x0, args = [x0] := by
    unfold bclz32_ct at hF; split at hF
    · exact ⟨_, rfl⟩
    · cases hF
  cases e0 : aU32 x0 with
  | none => simp only [bclz32_ct, e0, reduceCtorEq] at hF
  | some l0 =>
  simp only [bclz32_ct, e0, Option.some.injEq, Prod.mk.injEq] at hF
  obtain ⟨rfl, rfl, rfl⟩ := hF
  obtain ⟨v0, vals, rfl, k0, ha⟩ := F2.inv ha
  obtain rfl := F2.inv0 ha
  have hI : ∀ w', Kp (noB (fun _ => undef)) w w' → Tr w' := fun _ hk => Tr.keep hk.below hG
  have h : bclz32 n l0 = some r := hg
  have s0 := aU32_ok e0 (k0)
  have hR0 := rel0 (gv := (fun _ => undef)) (n := 6) (w := w) (args := [.c (.s (.u32 l0))]) (H := []) (gl := []) (hpL (ps := []) F2.nil) (allRo_ok rfl) (F2.cons s0 F2.nil) GlR.nil (by simp)
  clear ha hp hg k0 e0
  refine calls_W Try.func59 rfl rfl hR0 (Q := fun e s => (e = .ret ∨ e = .normal) ∧ s = bclz32_R r) ?_ ?_
  · clear hR0
    unfold bclz32 at h
    have hT := tabO_ra
    refine W_seq ?_
    refine W_reg hT ftL_nil [] [] [0] [] (s' := ⟨[(0, .c (.s (.u32 l0)))], [], []⟩) (by kernel_rfl) allP_nil ?_
    refine W_seq ?_
    obtain ⟨r4, g1, h⟩ := bind_some' h
    obtain ⟨g2, h⟩ := gd_some h
    refine W_reg hT (ftL_cons (k := 1) (f := 64) (F := (blen32_ct n r4)) (blen32_ok n r4) (fun _ _ => True.intro) ftL_nil) [] [] [2] [] (s' := ⟨[(2, .c (.s (.k .i64 (32 - r4))))], [], []⟩) (by kernel_rfl) (allP_cons.2 ⟨g1, (allP_cons.2 ⟨g2, allP_nil⟩)⟩) ?_
    refine W_co [] [2] [] (s' := (bclz32_R (32 - r4))) (by kernel_rfl) (W_ret ?_)
    exact ⟨.inl rfl, by cases h; rfl⟩
  · rintro e s' ⟨he, rfl⟩
    refine ⟨he, fun a' w' hr => ?_⟩
    exact retS_ok tabO_ra hr (rs := [.tmp 2]) rfl (objs := []) (by kernel_rfl)
def pshift_l1_E (a0 : List UInt32) (a1 : Int) (w5_2 : List UInt32) (i14_2 : Int) : S := ⟨[(1, .c (.s (.k .i64 a1))), (5, .c (.wh 0)), (12, .c (.wh 1)), (13, .c (.s (.k .i64 ((a0.length : Nat) : Int)))), (14, .c (.s (.k .i64 i14_2)))], [], [⟨.row, 47, 1, (((a0.length : Nat) : Int) + 1).toNat, .w w5_2⟩, ⟨(.ro false), 47, 1, a0.length, .w a0⟩]⟩
def pshift_l1_P (n : Nat) (a0 : List UInt32) (a1 : Int) (r : List UInt32 × Nat) (fu : Nat) : S → Prop := fun s => ∃ (w5_2 : List UInt32), ∃ (i14_2 : Int), s = pshift_l1_E a0 a1 w5_2 i14_2 ∧ pshift_l1 n a0 a1 fu w5_2 i14_2 = some r
theorem pshift_l1_M {n : Nat} {a0 : List UInt32} {a1 : Int} {w5_2 : List UInt32} {i14_2 : Int} {r : List UInt32 × Nat} {fu : Nat} (h : pshift_l1 n a0 a1 fu w5_2 i14_2 = some r) : pshift_l1_P n a0 a1 r fu (pshift_l1_E a0 a1 w5_2 i14_2) := ⟨w5_2, i14_2, rfl, h⟩
def pshift_R (r : List UInt32 × Nat) : S := ⟨[(4, .c (.wh 0))], [], [⟨.row, 47, 1, r.2, .w r.1⟩]⟩
def pshift_ct (n : Nat) (r : List UInt32 × Nat) : Ct := fun args H => match args with
  | [x0, x1] => (match aW H x0 with | some l0 => (match aI x1 with | some l1 => some ([pshift n l0 l1 = some r], shA H.length (.c (.wh 0)), shH H.length [⟨.row, 47, 1, r.2, .w r.1⟩]) | none => none) | none => none)
  | _ => none
theorem pshift_ok (n : Nat) (r : List UInt32 × Nat) : FnOk Try.prog Tr 60 (pshift_ct n r) := by
  refine ⟨fun args H g av objs hF hg ρ w vals hG hp ha => ?_, _, Try.func60, by kernel_rfl, by kernel_rfl⟩
  obtain ⟨x0, x1, rfl⟩ : ∃ x0 x1, args = [x0, x1] := by
    unfold pshift_ct at hF; split at hF
    · exact ⟨_, _, rfl⟩
    · cases hF
  cases e0 : aW H x0 with
  | none => simp only [pshift_ct, e0, reduceCtorEq] at hF
  | some l0 =>
  cases e1 : aI x1 with
  | none => simp only [pshift_ct, e0, e1, reduceCtorEq] at hF
  | some l1 =>
  simp only [pshift_ct, e0, e1, Option.some.injEq, Prod.mk.injEq] at hF
  obtain ⟨rfl, rfl, rfl⟩ := hF
  obtain ⟨v0, vals, rfl, k0, ha⟩ := F2.inv ha
  obtain ⟨v1, vals, rfl, k1, ha⟩ := F2.inv ha
  obtain rfl := F2.inv0 ha
  have hI : ∀ w', Kp (noB (fun _ => undef)) w w' → Tr w' := fun _ hk => Tr.keep hk.below hG
  have h : pshift n l0 l1 = some r := hg
  obtain ⟨p0, s0, o0⟩ := aW_ok hp e0 (k0) 47
  have s1 := aI_ok e1 (k1)
  have hR0 := rel0 (gv := (fun _ => undef)) (n := 40) (w := w) (args := [.c (.wh 0), .c (.s (.k .i64 l1))]) (H := [⟨.ro false, 47, 1, l0.length, .w l0⟩]) (gl := []) (hpL (ps := [p0]) (F2.cons o0 F2.nil)) (allRo_ok rfl) (F2.cons s0 (F2.cons s1 F2.nil)) GlR.nil (by simp)
  clear ha hp hg k0 k1 e0 e1
  refine calls_W Try.func60 rfl rfl hR0 (Q := fun e s => (e = .ret ∨ e = .normal) ∧ s = pshift_R r) ?_ ?_
  · clear hR0
    unfold pshift at h
    have hT := tabO_ra
    refine W_seq ?_
    refine W_reg hT ftL_nil [] [] [0, 1] [0] (s' := ⟨[(0, .c (.wh 0)), (1, .c (.s (.k .i64 l1)))], [], [⟨(.ro false), 47, 1, l0.length, .w l0⟩]⟩) (by kernel_rfl) allP_nil ?_
    refine W_seq ?_
    obtain ⟨g1, h⟩ := gd_some h
    obtain ⟨g2, h⟩ := gd_some h
    obtain ⟨g3, h⟩ := gd_some h
    obtain ⟨g4, h⟩ := gd_some h
    refine W_reg hT ftL_nil [] [] [0, 1, 5] [0, 1] (s' := ⟨[(0, .c (.wh 0)), (1, .c (.s (.k .i64 l1))), (5, .c (.wh 1))], [], [⟨(.ro false), 47, 1, l0.length, .w l0⟩, ⟨.row, 47, 1, (((l0.length : Nat) : Int) + 1).toNat, .w (List.replicate ((((l0.length : Nat) : Int) + 1).toNat) 0)⟩]⟩) (by kernel_rfl) (allP_cons.2 ⟨g1, (allP_cons.2 ⟨g2, (allP_cons.2 ⟨g3, (allP_cons.2 ⟨g4, allP_nil⟩)⟩)⟩)⟩) ?_
    refine W_seq ?_
    refine W_seq ?_
    refine W_reg hT ftL_nil [] [] [1, 5, 12, 13, 14] [1, 0] (s' := ⟨[(1, .c (.s (.k .i64 l1))), (5, .c (.wh 0)), (12, .c (.wh 1)), (13, .c (.s (.k .i64 ((l0.length : Nat) : Int)))), (14, .c (.s (.k .i64 0)))], [], [⟨.row, 47, 1, (((l0.length : Nat) : Int) + 1).toNat, .w (List.replicate ((((l0.length : Nat) : Int) + 1).toNat) 0)⟩, ⟨(.ro false), 47, 1, l0.length, .w l0⟩]⟩) (by kernel_rfl) allP_nil ?_
    refine W_block ?_
    refine W_co [] [1, 5, 12, 13, 14] [0, 1] (s' := (pshift_l1_E l0 l1 (List.replicate ((((l0.length : Nat) : Int) + 1).toNat) 0) 0)) (by kernel_rfl) (W_lp ((pshift_l1_P n l0 l1 r)) n (pshift_l1_M h) ?_)
    rintro fu_l1 _ ⟨w5_2, i14_2, rfl, h⟩
    cases fu_l1 with
    | zero => cases h
    | succ fu_l1 =>
      refine ⟨fu_l1, rfl, ?_⟩
      rw [pshift_l1] at h
      refine W_seq ?_
      refine W_reg hT ftL_nil [] [] [1, 5, 12, 13, 14, 15] [0, 1] (s' := ⟨[(1, .c (.s (.k .i64 l1))), (5, .c (.wh 0)), (12, .c (.wh 1)), (13, .c (.s (.k .i64 ((l0.length : Nat) : Int)))), (14, .c (.s (.k .i64 i14_2))), (15, .c (.s (.b (decide (i14_2 < ((l0.length : Nat) : Int))))))], [], [⟨.row, 47, 1, (((l0.length : Nat) : Int) + 1).toNat, .w w5_2⟩, ⟨(.ro false), 47, 1, l0.length, .w l0⟩]⟩) (by kernel_rfl) allP_nil ?_
      refine W_seq ?_
      refine W_cond (b := (decide (i14_2 < ((l0.length : Nat) : Int)))) (by kernel_rfl) (fun g18 => ?_) (fun g18 => ?_)
      · replace h := bif_t h g18
        refine W_co [] [1, 5, 12, 13, 14] [0, 1] (s' := ⟨[(1, .c (.s (.k .i64 l1))), (5, .c (.wh 0)), (12, .c (.wh 1)), (13, .c (.s (.k .i64 ((l0.length : Nat) : Int)))), (14, .c (.s (.k .i64 i14_2)))], [], [⟨.row, 47, 1, (((l0.length : Nat) : Int) + 1).toNat, .w w5_2⟩, ⟨(.ro false), 47, 1, l0.length, .w l0⟩]⟩) (by kernel_rfl) (W_skip ?_)
        refine W_seq ?_
        refine W_block ?_
        refine W_seq ?_
        obtain ⟨g5, h⟩ := gd_some h
        obtain ⟨g6, h⟩ := gd_some h
        refine W_reg hT ftL_nil [] [] [1, 5, 6, 7, 12, 13, 14] [0, 1] (s' := ⟨[(1, .c (.s (.k .i64 l1))), (5, .c (.wh 0)), (6, .c (.s (.k .i64 i14_2))), (7, .c (.s (.u32 (l0.getD i14_2.toNat 0)))), (12, .c (.wh 1)), (13, .c (.s (.k .i64 ((l0.length : Nat) : Int)))), (14, .c (.s (.k .i64 i14_2)))], [], [⟨.row, 47, 1, (((l0.length : Nat) : Int) + 1).toNat, .w w5_2⟩, ⟨(.ro false), 47, 1, l0.length, .w l0⟩]⟩) (by kernel_rfl) (allP_cons.2 ⟨g5, (allP_cons.2 ⟨g6, allP_nil⟩)⟩) ?_
        refine W_seq ?_
        obtain ⟨g7, h⟩ := gd_some h
        obtain ⟨g8, h⟩ := gd_some h
        obtain ⟨g9, h⟩ := gd_some h
        obtain ⟨g10, h⟩ := gd_some h
        obtain ⟨g11, h⟩ := gd_some h
        refine W_regD hT ftL_nil (by kernel_rfl) 7 [] [(1, false), (5, false), (6, false), (7, false), (12, false), (13, false), (14, false), (19, false), (20, false), (22, false), (25, false)] [] [1, 5, 6, 7, 12, 13, 14] [0, 1] (s' := ⟨[(1, .c (.s (.k .i64 l1))), (5, .c (.wh 0)), (6, .c (.s (.k .i64 i14_2))), (7, .c (.s (.u32 (l0.getD i14_2.toNat 0)))), (12, .c (.wh 1)), (13, .c (.s (.k .i64 ((l0.length : Nat) : Int)))), (14, .c (.s (.k .i64 i14_2)))], [], [⟨.row, 47, 1, (((l0.length : Nat) : Int) + 1).toNat, .w (w5_2.set i14_2.toNat ((w5_2.getD i14_2.toNat 0) ||| (shl32 (l0.getD i14_2.toNat 0) l1)))⟩, ⟨(.ro false), 47, 1, l0.length, .w l0⟩]⟩) (by kernel_rfl) (by kernel_rfl) (allP_cons.2 ⟨g7, (allP_cons.2 ⟨g8, (allP_cons.2 ⟨g9, (allP_cons.2 ⟨g10, (allP_cons.2 ⟨g11, allP_nil⟩)⟩)⟩)⟩)⟩) ?_
        obtain ⟨g12, h⟩ := gd_some h
        obtain ⟨g13, h⟩ := gd_some h
        obtain ⟨g14, h⟩ := gd_some h
        obtain ⟨g15, h⟩ := gd_some h
        obtain ⟨g16, h⟩ := gd_some h
        refine W_reg hT ftL_nil [] [] [1, 5, 12, 13, 14] [0, 1] (s' := ⟨[(1, .c (.s (.k .i64 l1))), (5, .c (.wh 0)), (12, .c (.wh 1)), (13, .c (.s (.k .i64 ((l0.length : Nat) : Int)))), (14, .c (.s (.k .i64 i14_2)))], [], [⟨.row, 47, 1, (((l0.length : Nat) : Int) + 1).toNat, .w ((w5_2.set i14_2.toNat ((w5_2.getD i14_2.toNat 0) ||| (shl32 (l0.getD i14_2.toNat 0) l1))).set ((i14_2 + 1).toNat) ((shr64 (shl64 ((l0.getD i14_2.toNat 0).toUInt64) l1) 32).toUInt32))⟩, ⟨(.ro false), 47, 1, l0.length, .w l0⟩]⟩) (by kernel_rfl) (allP_cons.2 ⟨g12, (allP_cons.2 ⟨g13, (allP_cons.2 ⟨g14, (allP_cons.2 ⟨g15, (allP_cons.2 ⟨g16, allP_nil⟩)⟩)⟩)⟩)⟩) ?_
        obtain ⟨g17, h⟩ := gd_some h
        refine W_reg hT ftL_nil [] [] [1, 5, 12, 13, 14] [0, 1] (s' := (pshift_l1_E l0 l1 ((w5_2.set i14_2.toNat ((w5_2.getD i14_2.toNat 0) ||| (shl32 (l0.getD i14_2.toNat 0) l1))).set ((i14_2 + 1).toNat) ((shr64 (shl64 ((l0.getD i14_2.toNat 0).toUInt64) l1) 32).toUInt32)) (i14_2 + 1))) (by kernel_rfl) (allP_cons.2 ⟨g17, allP_nil⟩) ?_
        exact pshift_l1_M h
      · replace h := bif_f h g18
        refine W_co [] [5] [0] (s' := ⟨[(5, .c (.wh 0))], [], [⟨.row, 47, 1, (((l0.length : Nat) : Int) + 1).toNat, .w w5_2⟩]⟩) (by kernel_rfl) (W_exit ?_)
        refine W_seq ?_
        refine W_reg hT ftL_nil [] [] [4] [0] (s' := ⟨[(4, .c (.wh 0))], [], [⟨.row, 47, 1, (((l0.length : Nat) : Int) + 1).toNat, .w w5_2⟩]⟩) (by kernel_rfl) allP_nil ?_
        refine W_co [] [4] [0] (s' := (pshift_R (w5_2, (((l0.length : Nat) : Int) + 1).toNat))) (by kernel_rfl) (W_ret ?_)
        exact ⟨.inl rfl, by cases h; rfl⟩
  · rintro e s' ⟨he, rfl⟩
    refine ⟨he, fun a' w' hr => ?_⟩
    exact retS_ok tabO_ra hr (rs := [.tmp 4]) rfl (objs := [0]) (by kernel_rfl)
def pdigit_j1_E (y10_7 : UInt64) : S := ⟨[(10, .c (.s (.u64 y10_7)))], [], []⟩
def pdigit_j1_P (n : Nat) (r : UInt64) : S → Prop := fun s => ∃ (y10_7 : UInt64), s = pdigit_j1_E y10_7 ∧ pdigit_j1 n y10_7 = some r
theorem pdigit_j1_M {n : Nat} {y10_7 : UInt64} {r : UInt64} (h : pdigit_j1 n y10_7 = some r) : pdigit_j1_P n r (pdigit_j1_E y10_7) := ⟨y10_7, rfl, h⟩
def pdigit_l1_E (a0 : List UInt32) (a1 : List UInt32) (a2 : Int) (y10_8 : UInt64) (y11_5 : UInt64) : S := ⟨[(0, .c (.wh 0)), (1, .c (.wh 1)), (2, .c (.s (.k .i64 a2))), (7, .c (.s (.k .i64 ((a1.length : Nat) : Int)))), (8, .c (.s (.u64 ((a1.getD ((((a1.length : Nat) : Int) - 1).toNat) 0).toUInt64)))), (10, .c (.s (.u64 y10_8))), (11, .c (.s (.u64 y11_5)))], [], [⟨(.ro false), 47, 1, a0.length, .w a0⟩, ⟨(.ro false), 47, 1, a1.length, .w a1⟩]⟩
def pdigit_l1_P (n : Nat) (a0 : List UInt32) (a1 : List UInt32) (a2 : Int) (r : UInt64) (fu : Nat) : S → Prop := fun s => ∃ (y10_8 : UInt64), ∃ (y11_5 : UInt64), s = pdigit_l1_E a0 a1 a2 y10_8 y11_5 ∧ pdigit_l1 n a0 a1 a2 fu y10_8 y11_5 = some r
theorem pdigit_l1_M {n : Nat} {a0 : List UInt32} {a1 : List UInt32} {a2 : Int} {y10_8 : UInt64} {y11_5 : UInt64} {r : UInt64} {fu : Nat} (h : pdigit_l1 n a0 a1 a2 fu y10_8 y11_5 = some r) : pdigit_l1_P n a0 a1 a2 r fu (pdigit_l1_E a0 a1 a2 y10_8 y11_5) := ⟨y10_8, y11_5, rfl, h⟩
def pdigit_R (r : UInt64) : S := ⟨[(6, .c (.s (.u64 r)))], [], []⟩
def pdigit_ct (n : Nat) (r : UInt64) : Ct := fun args H => match args with
  | [x0, x1, x2] => (match aW H x0 with | some l0 => (match aW H x1 with | some l1 => (match aI x2 with | some l2 => some ([pdigit n l0 l1 l2 = some r], shA H.length (.c (.s (.u64 r))), shH H.length []) | none => none) | none => none) | none => none)
  | _ => none
theorem pdigit_ok (n : Nat) (r : UInt64) : FnOk Try.prog Tr 61 (pdigit_ct n r) := by
  refine ⟨fun args H g av objs hF hg ρ w vals hG hp ha => ?_, _, Try.func61, by kernel_rfl, by kernel_rfl⟩
  obtain ⟨x0, x1, x2, rfl⟩ : ∃ x0 x1 x2, args = [x0, x1, x2] := by
    unfold pdigit_ct at hF; split at hF
    · exact ⟨_, _, _, rfl⟩
    · cases hF
  cases e0 : aW H x0 with
  | none => simp only [pdigit_ct, e0, reduceCtorEq] at hF
  | some l0 =>
  cases e1 : aW H x1 with
  | none => simp only [pdigit_ct, e0, e1, reduceCtorEq] at hF
  | some l1 =>
  cases e2 : aI x2 with
  | none => simp only [pdigit_ct, e0, e1, e2, reduceCtorEq] at hF
  | some l2 =>
  simp only [pdigit_ct, e0, e1, e2, Option.some.injEq, Prod.mk.injEq] at hF
  obtain ⟨rfl, rfl, rfl⟩ := hF
  obtain ⟨v0, vals, rfl, k0, ha⟩ := F2.inv ha
  obtain ⟨v1, vals, rfl, k1, ha⟩ := F2.inv ha
  obtain ⟨v2, vals, rfl, k2, ha⟩ := F2.inv ha
  obtain rfl := F2.inv0 ha
  have hI : ∀ w', Kp (noB (fun _ => undef)) w w' → Tr w' := fun _ hk => Tr.keep hk.below hG
  have h : pdigit n l0 l1 l2 = some r := hg
  obtain ⟨p0, s0, o0⟩ := aW_ok hp e0 (k0) 47
  obtain ⟨p1, s1, o1⟩ := aW_ok hp e1 (k1) 47
  have s2 := aI_ok e2 (k2)
  have hR0 := rel0 (gv := (fun _ => undef)) (n := 77) (w := w) (args := [.c (.wh 0), .c (.wh 1), .c (.s (.k .i64 l2))]) (H := [⟨.ro false, 47, 1, l0.length, .w l0⟩, ⟨.ro false, 47, 1, l1.length, .w l1⟩]) (gl := []) (hpL (ps := [p0, p1]) (F2.cons o0 (F2.cons o1 F2.nil))) (allRo_ok rfl) (F2.cons s0 (F2.cons s1 (F2.cons s2 F2.nil))) GlR.nil (by simp)
  clear ha hp hg k0 k1 k2 e0 e1 e2
  refine calls_W Try.func61 rfl rfl hR0 (Q := fun e s => (e = .ret ∨ e = .normal) ∧ s = pdigit_R r) ?_ ?_
  · clear hR0
    unfold pdigit at h
    have hT := tabO_ra
    refine W_seq ?_
    refine W_reg hT ftL_nil [] [] [0, 1, 2] [0, 1] (s' := ⟨[(0, .c (.wh 0)), (1, .c (.wh 1)), (2, .c (.s (.k .i64 l2)))], [], [⟨(.ro false), 47, 1, l0.length, .w l0⟩, ⟨(.ro false), 47, 1, l1.length, .w l1⟩]⟩) (by kernel_rfl) allP_nil ?_
    refine W_seq ?_
    refine W_reg hT ftL_nil [] [] [0, 1, 2, 7] [0, 1] (s' := ⟨[(0, .c (.wh 0)), (1, .c (.wh 1)), (2, .c (.s (.k .i64 l2))), (7, .c (.s (.k .i64 ((l1.length : Nat) : Int))))], [], [⟨(.ro false), 47, 1, l0.length, .w l0⟩, ⟨(.ro false), 47, 1, l1.length, .w l1⟩]⟩) (by kernel_rfl) allP_nil ?_
    refine W_seq ?_
    obtain ⟨g1, h⟩ := gd_some h
    obtain ⟨g2, h⟩ := gd_some h
    obtain ⟨g3, h⟩ := gd_some h
    refine W_reg hT ftL_nil [] [] [0, 1, 2, 7, 8] [0, 1] (s' := ⟨[(0, .c (.wh 0)), (1, .c (.wh 1)), (2, .c (.s (.k .i64 l2))), (7, .c (.s (.k .i64 ((l1.length : Nat) : Int)))), (8, .c (.s (.u64 ((l1.getD ((((l1.length : Nat) : Int) - 1).toNat) 0).toUInt64))))], [], [⟨(.ro false), 47, 1, l0.length, .w l0⟩, ⟨(.ro false), 47, 1, l1.length, .w l1⟩]⟩) (by kernel_rfl) (allP_cons.2 ⟨g1, (allP_cons.2 ⟨g2, (allP_cons.2 ⟨g3, allP_nil⟩)⟩)⟩) ?_
    refine W_seq ?_
    obtain ⟨g4, h⟩ := gd_some h
    obtain ⟨g5, h⟩ := gd_some h
    obtain ⟨g6, h⟩ := gd_some h
    obtain ⟨g7, h⟩ := gd_some h
    obtain ⟨g8, h⟩ := gd_some h
    obtain ⟨g9, h⟩ := gd_some h
    obtain ⟨g10, h⟩ := gd_some h
    obtain ⟨g11, h⟩ := gd_some h
    refine W_regD hT ftL_nil (by kernel_rfl) 16 [] [(0, false), (1, false), (2, false), (7, false), (8, false), (27, false), (35, false)] [] [0, 1, 2, 7, 8, 9] [0, 1] (s' := ⟨[(0, .c (.wh 0)), (1, .c (.wh 1)), (2, .c (.s (.k .i64 l2))), (7, .c (.s (.k .i64 ((l1.length : Nat) : Int)))), (8, .c (.s (.u64 ((l1.getD ((((l1.length : Nat) : Int) - 1).toNat) 0).toUInt64)))), (9, .c (.s (.u64 ((shl64 ((l0.getD ((l2 + ((l1.length : Nat) : Int)).toNat) 0).toUInt64) 32) ||| ((l0.getD (((l2 + ((l1.length : Nat) : Int)) - 1).toNat) 0).toUInt64)))))], [], [⟨(.ro false), 47, 1, l0.length, .w l0⟩, ⟨(.ro false), 47, 1, l1.length, .w l1⟩]⟩) (by kernel_rfl) (by kernel_rfl) (allP_cons.2 ⟨g4, (allP_cons.2 ⟨g5, (allP_cons.2 ⟨g6, (allP_cons.2 ⟨g7, (allP_cons.2 ⟨g8, (allP_cons.2 ⟨g9, (allP_cons.2 ⟨g10, (allP_cons.2 ⟨g11, allP_nil⟩)⟩)⟩)⟩)⟩)⟩)⟩)⟩) ?_
    refine W_seq ?_
    obtain ⟨g12, h⟩ := gd_some h
    obtain ⟨g13, h⟩ := gd_some h
    refine W_regD hT ftL_nil (by kernel_rfl) 7 [] [(0, false), (1, false), (2, false), (7, false), (8, false), (10, false), (42, false)] [] [0, 1, 2, 7, 8, 10, 11] [0, 1] (s' := ⟨[(0, .c (.wh 0)), (1, .c (.wh 1)), (2, .c (.s (.k .i64 l2))), (7, .c (.s (.k .i64 ((l1.length : Nat) : Int)))), (8, .c (.s (.u64 ((l1.getD ((((l1.length : Nat) : Int) - 1).toNat) 0).toUInt64)))), (10, .c (.s (.u64 (((shl64 ((l0.getD ((l2 + ((l1.length : Nat) : Int)).toNat) 0).toUInt64) 32) ||| ((l0.getD (((l2 + ((l1.length : Nat) : Int)) - 1).toNat) 0).toUInt64)) / ((l1.getD ((((l1.length : Nat) : Int) - 1).toNat) 0).toUInt64))))), (11, .c (.s (.u64 (((shl64 ((l0.getD ((l2 + ((l1.length : Nat) : Int)).toNat) 0).toUInt64) 32) ||| ((l0.getD (((l2 + ((l1.length : Nat) : Int)) - 1).toNat) 0).toUInt64)) % ((l1.getD ((((l1.length : Nat) : Int) - 1).toNat) 0).toUInt64)))))], [], [⟨(.ro false), 47, 1, l0.length, .w l0⟩, ⟨(.ro false), 47, 1, l1.length, .w l1⟩]⟩) (by kernel_rfl) (by kernel_rfl) (allP_cons.2 ⟨g12, (allP_cons.2 ⟨g13, allP_nil⟩)⟩) ?_
    refine W_join (pdigit_j1_P n r) ?_ ?_
    · rintro _ ⟨y10_7, rfl, h⟩
      unfold pdigit_j1 at h
      refine W_seq ?_
      refine W_reg hT ftL_nil [] [] [6] [] (s' := ⟨[(6, .c (.s (.u64 y10_7)))], [], []⟩) (by kernel_rfl) allP_nil ?_
      refine W_co [] [6] [] (s' := (pdigit_R y10_7)) (by kernel_rfl) (W_ret ?_)
      exact ⟨.inl rfl, by cases h; rfl⟩
    · refine W_block ?_
      refine W_co [] [0, 1, 2, 7, 8, 10, 11] [0, 1] (s' := (pdigit_l1_E l0 l1 l2 (((shl64 ((l0.getD ((l2 + ((l1.length : Nat) : Int)).toNat) 0).toUInt64) 32) ||| ((l0.getD (((l2 + ((l1.length : Nat) : Int)) - 1).toNat) 0).toUInt64)) / ((l1.getD ((((l1.length : Nat) : Int) - 1).toNat) 0).toUInt64)) (((shl64 ((l0.getD ((l2 + ((l1.length : Nat) : Int)).toNat) 0).toUInt64) 32) ||| ((l0.getD (((l2 + ((l1.length : Nat) : Int)) - 1).toNat) 0).toUInt64)) % ((l1.getD ((((l1.length : Nat) : Int) - 1).toNat) 0).toUInt64)))) (by kernel_rfl) (W_lp ((pdigit_l1_P n l0 l1 l2 r)) n (pdigit_l1_M h) ?_)
      rintro fu_l1 _ ⟨y10_8, y11_5, rfl, h⟩
      cases fu_l1 with
      | zero => cases h
      | succ fu_l1 =>
        refine ⟨fu_l1, rfl, ?_⟩
        rw [pdigit_l1] at h
        refine W_seq ?_
        refine W_seq ?_
        obtain ⟨g14, h⟩ := gd_some h
        rcases Bool.eq_false_or_eq_true (decide ((0 : UInt64) < (shr64 y10_8 32))) with g15 | g15
        · replace h := bif_t h g15
          refine W_regD hT ftL_nil (by kernel_rfl) 23 [(3, true)] [(0, false), (1, false), (2, false), (7, false), (8, false), (10, false), (11, false), (46, false), (54, false), (65, false)] [] [0, 1, 2, 7, 8, 10, 11, 67] [0, 1] (s' := ⟨[(0, .c (.wh 0)), (1, .c (.wh 1)), (2, .c (.s (.k .i64 l2))), (7, .c (.s (.k .i64 ((l1.length : Nat) : Int)))), (8, .c (.s (.u64 ((l1.getD ((((l1.length : Nat) : Int) - 1).toNat) 0).toUInt64)))), (10, .c (.s (.u64 y10_8))), (11, .c (.s (.u64 y11_5))), (67, .c (.s (.b true)))], [], [⟨(.ro false), 47, 1, l0.length, .w l0⟩, ⟨(.ro false), 47, 1, l1.length, .w l1⟩]⟩) (by kernel_rfl) (by kernel_rfl) (allP_cons.2 ⟨g14, (allP_cons.2 ⟨g15, allP_nil⟩)⟩) ?_
          refine W_cond (b := true) (by kernel_rfl) (fun _ => ?_) (fun hb => by cases hb)
          refine W_co [] [0, 1, 2, 7, 8, 10, 11] [0, 1] (s' := ⟨[(0, .c (.wh 0)), (1, .c (.wh 1)), (2, .c (.s (.k .i64 l2))), (7, .c (.s (.k .i64 ((l1.length : Nat) : Int)))), (8, .c (.s (.u64 ((l1.getD ((((l1.length : Nat) : Int) - 1).toNat) 0).toUInt64)))), (10, .c (.s (.u64 y10_8))), (11, .c (.s (.u64 y11_5)))], [], [⟨(.ro false), 47, 1, l0.length, .w l0⟩, ⟨(.ro false), 47, 1, l1.length, .w l1⟩]⟩) (by kernel_rfl) (W_skip ?_)
          refine W_block ?_
          refine W_seq ?_
          refine W_reg hT ftL_nil [] [] [0, 1, 2, 7, 8, 10, 11] [0, 1] (s' := ⟨[(0, .c (.wh 0)), (1, .c (.wh 1)), (2, .c (.s (.k .i64 l2))), (7, .c (.s (.k .i64 ((l1.length : Nat) : Int)))), (8, .c (.s (.u64 ((l1.getD ((((l1.length : Nat) : Int) - 1).toNat) 0).toUInt64)))), (10, .c (.s (.u64 (y10_8 - (1 : UInt64))))), (11, .c (.s (.u64 y11_5)))], [], [⟨(.ro false), 47, 1, l0.length, .w l0⟩, ⟨(.ro false), 47, 1, l1.length, .w l1⟩]⟩) (by kernel_rfl) allP_nil ?_
          refine W_seq ?_
          refine W_reg hT ftL_nil [] [] [0, 1, 2, 7, 8, 10, 11] [0, 1] (s' := ⟨[(0, .c (.wh 0)), (1, .c (.wh 1)), (2, .c (.s (.k .i64 l2))), (7, .c (.s (.k .i64 ((l1.length : Nat) : Int)))), (8, .c (.s (.u64 ((l1.getD ((((l1.length : Nat) : Int) - 1).toNat) 0).toUInt64)))), (10, .c (.s (.u64 (y10_8 - (1 : UInt64))))), (11, .c (.s (.u64 (y11_5 + ((l1.getD ((((l1.length : Nat) : Int) - 1).toNat) 0).toUInt64)))))], [], [⟨(.ro false), 47, 1, l0.length, .w l0⟩, ⟨(.ro false), 47, 1, l1.length, .w l1⟩]⟩) (by kernel_rfl) allP_nil ?_
          refine W_seq ?_
          obtain ⟨g16, h⟩ := gd_some h
          refine W_reg hT ftL_nil [] [] [0, 1, 2, 7, 8, 10, 11, 75] [0, 1] (s' := ⟨[(0, .c (.wh 0)), (1, .c (.wh 1)), (2, .c (.s (.k .i64 l2))), (7, .c (.s (.k .i64 ((l1.length : Nat) : Int)))), (8, .c (.s (.u64 ((l1.getD ((((l1.length : Nat) : Int) - 1).toNat) 0).toUInt64)))), (10, .c (.s (.u64 (y10_8 - (1 : UInt64))))), (11, .c (.s (.u64 (y11_5 + ((l1.getD ((((l1.length : Nat) : Int) - 1).toNat) 0).toUInt64))))), (75, .c (.s (.b (decide ((0 : UInt64) < (shr64 (y11_5 + ((l1.getD ((((l1.length : Nat) : Int) - 1).toNat) 0).toUInt64)) 32))))))], [], [⟨(.ro false), 47, 1, l0.length, .w l0⟩, ⟨(.ro false), 47, 1, l1.length, .w l1⟩]⟩) (by kernel_rfl) (allP_cons.2 ⟨g16, allP_nil⟩) ?_
          refine W_cond (b := (decide ((0 : UInt64) < (shr64 (y11_5 + ((l1.getD ((((l1.length : Nat) : Int) - 1).toNat) 0).toUInt64)) 32)))) (by kernel_rfl) (fun g17 => ?_) (fun g17 => ?_)
          · replace h := bif_t h g17
            refine W_co [] [10] [] (s' := (pdigit_j1_E (y10_8 - (1 : UInt64)))) (by kernel_rfl) (W_exit ?_)
            exact pdigit_j1_M h
          · replace h := bif_f h g17
            refine W_co [] [0, 1, 2, 7, 8, 10, 11] [0, 1] (s' := (pdigit_l1_E l0 l1 l2 (y10_8 - (1 : UInt64)) (y11_5 + ((l1.getD ((((l1.length : Nat) : Int) - 1).toNat) 0).toUInt64)))) (by kernel_rfl) (W_skip ?_)
            exact pdigit_l1_M h
        · replace h := bif_f h g15
          obtain ⟨g18, h⟩ := gd_some h
          obtain ⟨g19, h⟩ := gd_some h
          obtain ⟨g20, h⟩ := gd_some h
          obtain ⟨g21, h⟩ := gd_some h
          obtain ⟨g22, h⟩ := gd_some h
          obtain ⟨g23, h⟩ := gd_some h
          obtain ⟨g24, h⟩ := gd_some h
          obtain ⟨g25, h⟩ := gd_some h
          refine W_regD hT ftL_nil (by kernel_rfl) 23 [(3, false)] [(0, false), (1, false), (2, false), (7, false), (8, false), (10, false), (11, false), (46, false), (54, false), (65, false)] [] [0, 1, 2, 7, 8, 10, 11, 67] [0, 1] (s' := ⟨[(0, .c (.wh 0)), (1, .c (.wh 1)), (2, .c (.s (.k .i64 l2))), (7, .c (.s (.k .i64 ((l1.length : Nat) : Int)))), (8, .c (.s (.u64 ((l1.getD ((((l1.length : Nat) : Int) - 1).toNat) 0).toUInt64)))), (10, .c (.s (.u64 y10_8))), (11, .c (.s (.u64 y11_5))), (67, .c (.s (.b (decide (((shl64 y11_5 32) ||| ((l0.getD (((l2 + ((l1.length : Nat) : Int)) - 2).toNat) 0).toUInt64)) < (y10_8 * ((l1.getD ((((l1.length : Nat) : Int) - 2).toNat) 0).toUInt64)))))))], [], [⟨(.ro false), 47, 1, l0.length, .w l0⟩, ⟨(.ro false), 47, 1, l1.length, .w l1⟩]⟩) (by kernel_rfl) (by kernel_rfl) (allP_cons.2 ⟨g14, (allP_cons.2 ⟨g15, (allP_cons.2 ⟨g18, (allP_cons.2 ⟨g19, (allP_cons.2 ⟨g20, (allP_cons.2 ⟨g21, (allP_cons.2 ⟨g22, (allP_cons.2 ⟨g23, (allP_cons.2 ⟨g24, (allP_cons.2 ⟨g25, allP_nil⟩)⟩)⟩)⟩)⟩)⟩)⟩)⟩)⟩)⟩) ?_
          refine W_cond (b := (decide (((shl64 y11_5 32) ||| ((l0.getD (((l2 + ((l1.length : Nat) : Int)) - 2).toNat) 0).toUInt64)) < (y10_8 * ((l1.getD ((((l1.length : Nat) : Int) - 2).toNat) 0).toUInt64))))) (by kernel_rfl) (fun g28 => ?_) (fun g28 => ?_)
          · replace h := bif_t h g28
            refine W_co [] [0, 1, 2, 7, 8, 10, 11] [0, 1] (s' := ⟨[(0, .c (.wh 0)), (1, .c (.wh 1)), (2, .c (.s (.k .i64 l2))), (7, .c (.s (.k .i64 ((l1.length : Nat) : Int)))), (8, .c (.s (.u64 ((l1.getD ((((l1.length : Nat) : Int) - 1).toNat) 0).toUInt64)))), (10, .c (.s (.u64 y10_8))), (11, .c (.s (.u64 y11_5)))], [], [⟨(.ro false), 47, 1, l0.length, .w l0⟩, ⟨(.ro false), 47, 1, l1.length, .w l1⟩]⟩) (by kernel_rfl) (W_skip ?_)
            refine W_block ?_
            refine W_seq ?_
            refine W_reg hT ftL_nil [] [] [0, 1, 2, 7, 8, 10, 11] [0, 1] (s' := ⟨[(0, .c (.wh 0)), (1, .c (.wh 1)), (2, .c (.s (.k .i64 l2))), (7, .c (.s (.k .i64 ((l1.length : Nat) : Int)))), (8, .c (.s (.u64 ((l1.getD ((((l1.length : Nat) : Int) - 1).toNat) 0).toUInt64)))), (10, .c (.s (.u64 (y10_8 - (1 : UInt64))))), (11, .c (.s (.u64 y11_5)))], [], [⟨(.ro false), 47, 1, l0.length, .w l0⟩, ⟨(.ro false), 47, 1, l1.length, .w l1⟩]⟩) (by kernel_rfl) allP_nil ?_
            refine W_seq ?_
            refine W_reg hT ftL_nil [] [] [0, 1, 2, 7, 8, 10, 11] [0, 1] (s' := ⟨[(0, .c (.wh 0)), (1, .c (.wh 1)), (2, .c (.s (.k .i64 l2))), (7, .c (.s (.k .i64 ((l1.length : Nat) : Int)))), (8, .c (.s (.u64 ((l1.getD ((((l1.length : Nat) : Int) - 1).toNat) 0).toUInt64)))), (10, .c (.s (.u64 (y10_8 - (1 : UInt64))))), (11, .c (.s (.u64 (y11_5 + ((l1.getD ((((l1.length : Nat) : Int) - 1).toNat) 0).toUInt64)))))], [], [⟨(.ro false), 47, 1, l0.length, .w l0⟩, ⟨(.ro false), 47, 1, l1.length, .w l1⟩]⟩) (by kernel_rfl) allP_nil ?_
            refine W_seq ?_
            obtain ⟨g26, h⟩ := gd_some h
            refine W_reg hT ftL_nil [] [] [0, 1, 2, 7, 8, 10, 11, 75] [0, 1] (s' := ⟨[(0, .c (.wh 0)), (1, .c (.wh 1)), (2, .c (.s (.k .i64 l2))), (7, .c (.s (.k .i64 ((l1.length : Nat) : Int)))), (8, .c (.s (.u64 ((l1.getD ((((l1.length : Nat) : Int) - 1).toNat) 0).toUInt64)))), (10, .c (.s (.u64 (y10_8 - (1 : UInt64))))), (11, .c (.s (.u64 (y11_5 + ((l1.getD ((((l1.length : Nat) : Int) - 1).toNat) 0).toUInt64))))), (75, .c (.s (.b (decide ((0 : UInt64) < (shr64 (y11_5 + ((l1.getD ((((l1.length : Nat) : Int) - 1).toNat) 0).toUInt64)) 32))))))], [], [⟨(.ro false), 47, 1, l0.length, .w l0⟩, ⟨(.ro false), 47, 1, l1.length, .w l1⟩]⟩) (by kernel_rfl) (allP_cons.2 ⟨g26, allP_nil⟩) ?_
            refine W_cond (b := (decide ((0 : UInt64) < (shr64 (y11_5 + ((l1.getD ((((l1.length : Nat) : Int) - 1).toNat) 0).toUInt64)) 32)))) (by kernel_rfl) (fun g27 => ?_) (fun g27 => ?_)
            · replace h := bif_t h g27
              refine W_co [] [10] [] (s' := (pdigit_j1_E (y10_8 - (1 : UInt64)))) (by kernel_rfl) (W_exit ?_)
              exact pdigit_j1_M h
            · replace h := bif_f h g27
              refine W_co [] [0, 1, 2, 7, 8, 10, 11] [0, 1] (s' := (pdigit_l1_E l0 l1 l2 (y10_8 - (1 : UInt64)) (y11_5 + ((l1.getD ((((l1.length : Nat) : Int) - 1).toNat) 0).toUInt64)))) (by kernel_rfl) (W_skip ?_)
              exact pdigit_l1_M h
          · replace h := bif_f h g28
            refine W_co [] [10] [] (s' := (pdigit_j1_E y10_8)) (by kernel_rfl) (W_exit ?_)
            exact pdigit_j1_M h
  · rintro e s' ⟨he, rfl⟩
    refine ⟨he, fun a' w' hr => ?_⟩
    exact retS_ok tabO_ra hr (rs := [.tmp 6]) rfl (objs := []) (by kernel_rfl)
def pdivide_j1_E (a0 : List UInt32) (a1 : List UInt32) (r45 : Int) (r48 : List UInt32 × Nat) (r53 : List UInt32 × Nat) (w10_1 : List UInt32) (i11_1 : Int) (w9_25 : List UInt32) (y12_5 : UInt64) : S := ⟨[(6, .c (.s (.k .i64 ((a1.length : Nat) : Int)))), (7, .c (.s (.k .i64 r45))), (8, .c (.wh 0)), (9, .c (.wh 1)), (10, .c (.wh 2)), (11, .c (.s (.k .i64 i11_1))), (12, .c (.s (.u64 y12_5)))], [], [⟨(.ro true), 47, 1, ((a1.length : Nat) : Int).toNat, .w ((r48.1.drop 0).take (((a1.length : Nat) : Int).toNat))⟩, ⟨.row, 47, 1, r53.2, .w w9_25⟩, ⟨.row, 47, 1, ((((a0.length : Nat) : Int) - ((a1.length : Nat) : Int)) + 1).toNat, .w w10_1⟩]⟩
def pdivide_j1_P (n : Nat) (a0 : List UInt32) (a1 : List UInt32) (r45 : Int) (r48 : List UInt32 × Nat) (r53 : List UInt32 × Nat) (w10_1 : List UInt32) (i11_1 : Int) (k_l1 : (List UInt32) → (List UInt32) → Int → Option (List UInt32 × Nat × List UInt32 × Nat)) (r : List UInt32 × Nat × List UInt32 × Nat) : S → Prop := fun s => ∃ (w9_25 : List UInt32), ∃ (y12_5 : UInt64), s = pdivide_j1_E a0 a1 r45 r48 r53 w10_1 i11_1 w9_25 y12_5 ∧ pdivide_j1 n a0 a1 r45 r48 r53 w10_1 i11_1 k_l1 w9_25 y12_5 = some r
theorem pdivide_j1_M {n : Nat} {a0 : List UInt32} {a1 : List UInt32} {r45 : Int} {r48 : List UInt32 × Nat} {r53 : List UInt32 × Nat} {w10_1 : List UInt32} {i11_1 : Int} {k_l1 : (List UInt32) → (List UInt32) → Int → Option (List UInt32 × Nat × List UInt32 × Nat)} {w9_25 : List UInt32} {y12_5 : UInt64} {r : List UInt32 × Nat × List UInt32 × Nat} (h : pdivide_j1 n a0 a1 r45 r48 r53 w10_1 i11_1 k_l1 w9_25 y12_5 = some r) : pdivide_j1_P n a0 a1 r45 r48 r53 w10_1 i11_1 k_l1 r (pdivide_j1_E a0 a1 r45 r48 r53 w10_1 i11_1 w9_25 y12_5) := ⟨w9_25, y12_5, rfl, h⟩
def pdivide_l3_E (a0 : List UInt32) (a1 : List UInt32) (r45 : Int) (r48 : List UInt32 × Nat) (r53 : List UInt32 × Nat) (w10_1 : List UInt32) (i11_1 : Int) (r71_2 : UInt64) (w9_26 : List UInt32) (y18_11 : UInt64) (i131_11 : Int) : S := ⟨[(6, .c (.s (.k .i64 ((a1.length : Nat) : Int)))), (7, .c (.s (.k .i64 r45))), (8, .c (.wh 0)), (9, .c (.wh 1)), (10, .c (.wh 2)), (11, .c (.s (.k .i64 i11_1))), (12, .c (.s (.u64 (r71_2 - (1 : UInt64))))), (18, .c (.s (.u64 y18_11))), (130, .c (.s (.k .i64 ((a1.length : Nat) : Int)))), (131, .c (.s (.k .i64 i131_11)))], [], [⟨(.ro true), 47, 1, ((a1.length : Nat) : Int).toNat, .w ((r48.1.drop 0).take (((a1.length : Nat) : Int).toNat))⟩, ⟨.row, 47, 1, r53.2, .w w9_26⟩, ⟨.row, 47, 1, ((((a0.length : Nat) : Int) - ((a1.length : Nat) : Int)) + 1).toNat, .w w10_1⟩]⟩
def pdivide_l3_P (n : Nat) (a0 : List UInt32) (a1 : List UInt32) (r45 : Int) (r48 : List UInt32 × Nat) (r53 : List UInt32 × Nat) (w10_1 : List UInt32) (i11_1 : Int) (r71_2 : UInt64) (k_l1 : (List UInt32) → (List UInt32) → Int → Option (List UInt32 × Nat × List UInt32 × Nat)) (r : List UInt32 × Nat × List UInt32 × Nat) (fu : Nat) : S → Prop := fun s => ∃ (w9_26 : List UInt32), ∃ (y18_11 : UInt64), ∃ (i131_11 : Int), s = pdivide_l3_E a0 a1 r45 r48 r53 w10_1 i11_1 r71_2 w9_26 y18_11 i131_11 ∧ pdivide_l3 n a0 a1 r45 r48 r53 w10_1 i11_1 r71_2 k_l1 fu w9_26 y18_11 i131_11 = some r
theorem pdivide_l3_M {n : Nat} {a0 : List UInt32} {a1 : List UInt32} {r45 : Int} {r48 : List UInt32 × Nat} {r53 : List UInt32 × Nat} {w10_1 : List UInt32} {i11_1 : Int} {r71_2 : UInt64} {k_l1 : (List UInt32) → (List UInt32) → Int → Option (List UInt32 × Nat × List UInt32 × Nat)} {w9_26 : List UInt32} {y18_11 : UInt64} {i131_11 : Int} {r : List UInt32 × Nat × List UInt32 × Nat} {fu : Nat} (h : pdivide_l3 n a0 a1 r45 r48 r53 w10_1 i11_1 r71_2 k_l1 fu w9_26 y18_11 i131_11 = some r) : pdivide_l3_P n a0 a1 r45 r48 r53 w10_1 i11_1 r71_2 k_l1 r fu (pdivide_l3_E a0 a1 r45 r48 r53 w10_1 i11_1 r71_2 w9_26 y18_11 i131_11) := ⟨w9_26, y18_11, i131_11, rfl, h⟩
def pdivide_l2_E (a0 : List UInt32) (a1 : List UInt32) (r45 : Int) (r48 : List UInt32 × Nat) (r53 : List UInt32 × Nat) (w10_1 : List UInt32) (i11_1 : Int) (r71_2 : UInt64) (w9_23 : List UInt32) (i13_5 : Int) (i73_5 : Int) : S := ⟨[(6, .c (.s (.k .i64 ((a1.length : Nat) : Int)))), (7, .c (.s (.k .i64 r45))), (8, .c (.wh 0)), (9, .c (.wh 1)), (10, .c (.wh 2)), (11, .c (.s (.k .i64 i11_1))), (12, .c (.s (.u64 r71_2))), (13, .c (.s (.k .i64 i13_5))), (72, .c (.s (.k .i64 ((a1.length : Nat) : Int)))), (73, .c (.s (.k .i64 i73_5)))], [], [⟨(.ro true), 47, 1, ((a1.length : Nat) : Int).toNat, .w ((r48.1.drop 0).take (((a1.length : Nat) : Int).toNat))⟩, ⟨.row, 47, 1, r53.2, .w w9_23⟩, ⟨.row, 47, 1, ((((a0.length : Nat) : Int) - ((a1.length : Nat) : Int)) + 1).toNat, .w w10_1⟩]⟩
def pdivide_l2_P (n : Nat) (a0 : List UInt32) (a1 : List UInt32) (r45 : Int) (r48 : List UInt32 × Nat) (r53 : List UInt32 × Nat) (w10_1 : List UInt32) (i11_1 : Int) (r71_2 : UInt64) (k_l1 : (List UInt32) → (List UInt32) → Int → Option (List UInt32 × Nat × List UInt32 × Nat)) (r : List UInt32 × Nat × List UInt32 × Nat) (fu : Nat) : S → Prop := fun s => ∃ (w9_23 : List UInt32), ∃ (i13_5 : Int), ∃ (i73_5 : Int), s = pdivide_l2_E a0 a1 r45 r48 r53 w10_1 i11_1 r71_2 w9_23 i13_5 i73_5 ∧ pdivide_l2 n a0 a1 r45 r48 r53 w10_1 i11_1 r71_2 k_l1 fu w9_23 i13_5 i73_5 = some r
theorem pdivide_l2_M {n : Nat} {a0 : List UInt32} {a1 : List UInt32} {r45 : Int} {r48 : List UInt32 × Nat} {r53 : List UInt32 × Nat} {w10_1 : List UInt32} {i11_1 : Int} {r71_2 : UInt64} {k_l1 : (List UInt32) → (List UInt32) → Int → Option (List UInt32 × Nat × List UInt32 × Nat)} {w9_23 : List UInt32} {i13_5 : Int} {i73_5 : Int} {r : List UInt32 × Nat × List UInt32 × Nat} {fu : Nat} (h : pdivide_l2 n a0 a1 r45 r48 r53 w10_1 i11_1 r71_2 k_l1 fu w9_23 i13_5 i73_5 = some r) : pdivide_l2_P n a0 a1 r45 r48 r53 w10_1 i11_1 r71_2 k_l1 r fu (pdivide_l2_E a0 a1 r45 r48 r53 w10_1 i11_1 r71_2 w9_23 i13_5 i73_5) := ⟨w9_23, i13_5, i73_5, rfl, h⟩
def pdivide_l4_E (a0 : List UInt32) (a1 : List UInt32) (r45 : Int) (r53 : List UInt32 × Nat) (w10_1 : List UInt32) (w9_27 : List UInt32) (i175_1 : Int) : S := ⟨[(6, .c (.s (.k .i64 ((a1.length : Nat) : Int)))), (7, .c (.s (.k .i64 r45))), (9, .c (.wh 0)), (10, .c (.wh 1)), (174, .c (.s (.k .i64 ((a1.length : Nat) : Int)))), (175, .c (.s (.k .i64 i175_1)))], [], [⟨.row, 47, 1, r53.2, .w w9_27⟩, ⟨.row, 47, 1, ((((a0.length : Nat) : Int) - ((a1.length : Nat) : Int)) + 1).toNat, .w w10_1⟩]⟩
def pdivide_l4_P (n : Nat) (a0 : List UInt32) (a1 : List UInt32) (r45 : Int) (r53 : List UInt32 × Nat) (w10_1 : List UInt32) (r : List UInt32 × Nat × List UInt32 × Nat) (fu : Nat) : S → Prop := fun s => ∃ (w9_27 : List UInt32), ∃ (i175_1 : Int), s = pdivide_l4_E a0 a1 r45 r53 w10_1 w9_27 i175_1 ∧ pdivide_l4 n a0 a1 r45 r53 w10_1 fu w9_27 i175_1 = some r
theorem pdivide_l4_M {n : Nat} {a0 : List UInt32} {a1 : List UInt32} {r45 : Int} {r53 : List UInt32 × Nat} {w10_1 : List UInt32} {w9_27 : List UInt32} {i175_1 : Int} {r : List UInt32 × Nat × List UInt32 × Nat} {fu : Nat} (h : pdivide_l4 n a0 a1 r45 r53 w10_1 fu w9_27 i175_1 = some r) : pdivide_l4_P n a0 a1 r45 r53 w10_1 r fu (pdivide_l4_E a0 a1 r45 r53 w10_1 w9_27 i175_1) := ⟨w9_27, i175_1, rfl, h⟩
def pdivide_l1_E (a0 : List UInt32) (a1 : List UInt32) (r45 : Int) (r48 : List UInt32 × Nat) (r53 : List UInt32 × Nat) (w9_18 : List UInt32) (w10_1 : List UInt32) (i11_1 : Int) : S := ⟨[(6, .c (.s (.k .i64 ((a1.length : Nat) : Int)))), (7, .c (.s (.k .i64 r45))), (8, .c (.wh 0)), (9, .c (.wh 1)), (10, .c (.wh 2)), (11, .c (.s (.k .i64 i11_1)))], [], [⟨(.ro true), 47, 1, ((a1.length : Nat) : Int).toNat, .w ((r48.1.drop 0).take (((a1.length : Nat) : Int).toNat))⟩, ⟨.row, 47, 1, r53.2, .w w9_18⟩, ⟨.row, 47, 1, ((((a0.length : Nat) : Int) - ((a1.length : Nat) : Int)) + 1).toNat, .w w10_1⟩]⟩
def pdivide_l1_P (n : Nat) (a0 : List UInt32) (a1 : List UInt32) (r45 : Int) (r48 : List UInt32 × Nat) (r53 : List UInt32 × Nat) (r : List UInt32 × Nat × List UInt32 × Nat) (fu : Nat) : S → Prop := fun s => ∃ (w9_18 : List UInt32), ∃ (w10_1 : List UInt32), ∃ (i11_1 : Int), s = pdivide_l1_E a0 a1 r45 r48 r53 w9_18 w10_1 i11_1 ∧ pdivide_l1 n a0 a1 r45 r48 r53 fu w9_18 w10_1 i11_1 = some r
theorem pdivide_l1_M {n : Nat} {a0 : List UInt32} {a1 : List UInt32} {r45 : Int} {r48 : List UInt32 × Nat} {r53 : List UInt32 × Nat} {w9_18 : List UInt32} {w10_1 : List UInt32} {i11_1 : Int} {r : List UInt32 × Nat × List UInt32 × Nat} {fu : Nat} (h : pdivide_l1 n a0 a1 r45 r48 r53 fu w9_18 w10_1 i11_1 = some r) : pdivide_l1_P n a0 a1 r45 r48 r53 r fu (pdivide_l1_E a0 a1 r45 r48 r53 w9_18 w10_1 i11_1) := ⟨w9_18, w10_1, i11_1, rfl, h⟩
def pdivide_R (r : List UInt32 × Nat × List UInt32 × Nat) : S := ⟨[(4, .c (.wh 0)), (5, .c (.wh 1))], [], [⟨(.ro true), 47, 1, r.2.1, .w r.1⟩, ⟨(.ro true), 47, 1, r.2.2.2, .w r.2.2.1⟩]⟩
def pdivide_ct (n : Nat) (r : List UInt32 × Nat × List UInt32 × Nat) : Ct := fun args H => match args with
  | [x0, x1] => (match aW H x0 with | some l0 => (match aW H x1 with | some l1 => some ([pdivide n l0 l1 = some r], shA H.length (.t [.c (.wh 0), .c (.wh 1)]), shH H.length [⟨(.ro true), 47, 1, r.2.1, .w r.1⟩, ⟨(.ro true), 47, 1, r.2.2.2, .w r.2.2.1⟩]) | none => none) | none => none)
  | _ => none
theorem pdivide_ok (n : Nat) (r : List UInt32 × Nat × List UInt32 × Nat) : FnOk Try.prog Tr 51 (pdivide_ct n r) := by
  refine ⟨fun args H g av objs hF hg ρ w vals hG hp ha => ?_, _, Try.func51, by kernel_rfl, by kernel_rfl⟩
  obtain ⟨x0, x1, rfl⟩ : ∃ x0 x1, args = [x0, x1] := by
    unfold pdivide_ct at hF; split at hF
    · exact ⟨_, _, rfl⟩
    · cases hF
  cases e0 : aW H x0 with
  | none => simp only [pdivide_ct, e0, reduceCtorEq] at hF
  | some l0 =>
  cases e1 : aW H x1 with
  | none => simp only [pdivide_ct, e0, e1, reduceCtorEq] at hF
  | some l1 =>
  simp only [pdivide_ct, e0, e1, Option.some.injEq, Prod.mk.injEq] at hF
  obtain ⟨rfl, rfl, rfl⟩ := hF
  obtain ⟨v0, vals, rfl, k0, ha⟩ := F2.inv ha
  obtain ⟨v1, vals, rfl, k1, ha⟩ := F2.inv ha
  obtain rfl := F2.inv0 ha
  have hI : ∀ w', Kp (noB (fun _ => undef)) w w' → Tr w' := fun _ hk => Tr.keep hk.below hG
  have h : pdivide n l0 l1 = some r := hg
  obtain ⟨p0, s0, o0⟩ := aW_ok hp e0 (k0) 47
  obtain ⟨p1, s1, o1⟩ := aW_ok hp e1 (k1) 47
  have hR0 := rel0 (gv := (fun _ => undef)) (n := 205) (w := w) (args := [.c (.wh 0), .c (.wh 1)]) (H := [⟨.ro false, 47, 1, l0.length, .w l0⟩, ⟨.ro false, 47, 1, l1.length, .w l1⟩]) (gl := []) (hpL (ps := [p0, p1]) (F2.cons o0 (F2.cons o1 F2.nil))) (allRo_ok rfl) (F2.cons s0 (F2.cons s1 F2.nil)) GlR.nil (by simp)
  clear ha hp hg k0 k1 e0 e1
  refine calls_W Try.func51 rfl rfl hR0 (Q := fun e s => (e = .ret ∨ e = .normal) ∧ s = pdivide_R r) ?_ ?_
  · clear hR0
    unfold pdivide at h
    have hT := tabO_ra
    refine W_seq ?_
    refine W_reg hT ftL_nil [] [] [0, 1] [0, 1] (s' := ⟨[(0, .c (.wh 0)), (1, .c (.wh 1))], [], [⟨(.ro false), 47, 1, l0.length, .w l0⟩, ⟨(.ro false), 47, 1, l1.length, .w l1⟩]⟩) (by kernel_rfl) allP_nil ?_
    refine W_seq ?_
    refine W_reg hT ftL_nil [] [] [0, 1, 6] [0, 1] (s' := ⟨[(0, .c (.wh 0)), (1, .c (.wh 1)), (6, .c (.s (.k .i64 ((l1.length : Nat) : Int))))], [], [⟨(.ro false), 47, 1, l0.length, .w l0⟩, ⟨(.ro false), 47, 1, l1.length, .w l1⟩]⟩) (by kernel_rfl) allP_nil ?_
    refine W_seq ?_
    refine W_block ?_
    refine W_seq ?_
    obtain ⟨r26, g1, h⟩ := bind_some' h
    refine W_reg hT (ftL_cons (k := 2) (f := 32) (F := (pCmp_ct n r26)) (pCmp_ok n r26) (fun _ _ => True.intro) ftL_nil) [] [] [0, 1, 6, 23] [0, 1] (s' := ⟨[(0, .c (.wh 0)), (1, .c (.wh 1)), (6, .c (.s (.k .i64 ((l1.length : Nat) : Int)))), (23, .c (.s (.b (decide (r26 < (0 : Int))))))], [], [⟨(.ro false), 47, 1, l0.length, .w l0⟩, ⟨(.ro false), 47, 1, l1.length, .w l1⟩]⟩) (by kernel_rfl) (allP_cons.2 ⟨g1, allP_nil⟩) ?_
    refine W_cond (b := (decide (r26 < (0 : Int)))) (by kernel_rfl) (fun g82 => ?_) (fun g82 => ?_)
    · replace h := bif_t h g82
      refine W_seq ?_
      obtain ⟨g2, h⟩ := gd_some h
      refine W_reg hT (ftL_cons (k := 1) (f := 54) (F := clone_ct) clone_h (fun _ _ => True.intro) ftL_nil) [] [] [4, 5] [2] (s' := ⟨[(4, .c (.nils)), (5, .c (.wh 0))], [], [⟨.row, 47, 1, l0.length, .w l0⟩]⟩) (by kernel_rfl) (allP_cons.2 ⟨g2, allP_nil⟩) ?_
      refine W_co [.emp 4 47 1 (.w []) true, .vw 5 true] [4, 5] [1, 2] (s' := (pdivide_R ([], 0, l0, l0.length))) (by kernel_rfl) (W_ret ?_)
      exact ⟨.inl rfl, by cases h; rfl⟩
    · replace h := bif_f h g82
      refine W_seq ?_
      refine W_reg hT ftL_nil [] [] [0, 1, 6, 30] [0, 1] (s' := ⟨[(0, .c (.wh 0)), (1, .c (.wh 1)), (6, .c (.s (.k .i64 ((l1.length : Nat) : Int)))), (30, .c (.s (.b (((l1.length : Nat) : Int) == 1))))], [], [⟨(.ro false), 47, 1, l0.length, .w l0⟩, ⟨(.ro false), 47, 1, l1.length, .w l1⟩]⟩) (by kernel_rfl) allP_nil ?_
      refine W_cond (b := (((l1.length : Nat) : Int) == 1)) (by kernel_rfl) (fun g81 => ?_) (fun g81 => ?_)
      · replace h := bif_t h g81
        refine W_seq ?_
        obtain ⟨g3, h⟩ := gd_some h
        obtain ⟨g4, h⟩ := gd_some h
        obtain ⟨r37, g5, h⟩ := bind_some' h
        refine W_reg hT (ftL_cons (k := 4) (f := 58) (F := (pshort_ct n r37)) (pshort_ok n r37) (fun _ _ => True.intro) ftL_nil) [] [] [4, 5] [2, 3] (s' := ⟨[(4, .c (.wh 0)), (5, .c (.wh 1))], [], [⟨(.ro true), 47, 1, r37.2.1, .w r37.1⟩, ⟨(.ro true), 47, 1, r37.2.2.2, .w r37.2.2.1⟩]⟩) (by kernel_rfl) (allP_cons.2 ⟨g3, (allP_cons.2 ⟨g4, (allP_cons.2 ⟨g5, allP_nil⟩)⟩)⟩) ?_
        refine W_co [] [4, 5] [0, 1] (s' := (pdivide_R (r37.1, r37.2.1, r37.2.2.1, r37.2.2.2))) (by kernel_rfl) (W_ret ?_)
        exact ⟨.inl rfl, by cases h; rfl⟩
      · replace h := bif_f h g81
        refine W_co [] [0, 1, 6] [0, 1] (s' := ⟨[(0, .c (.wh 0)), (1, .c (.wh 1)), (6, .c (.s (.k .i64 ((l1.length : Nat) : Int))))], [], [⟨(.ro false), 47, 1, l0.length, .w l0⟩, ⟨(.ro false), 47, 1, l1.length, .w l1⟩]⟩) (by kernel_rfl) (W_skip ?_)
        refine W_seq ?_
        obtain ⟨g6, h⟩ := gd_some h
        obtain ⟨g7, h⟩ := gd_some h
        obtain ⟨g8, h⟩ := gd_some h
        obtain ⟨r45, g9, h⟩ := bind_some' h
        refine W_reg hT (ftL_cons (k := 5) (f := 59) (F := (bclz32_ct n r45)) (bclz32_ok n r45) (fun _ _ => True.intro) ftL_nil) [] [] [0, 1, 6, 7] [0, 1] (s' := ⟨[(0, .c (.wh 0)), (1, .c (.wh 1)), (6, .c (.s (.k .i64 ((l1.length : Nat) : Int)))), (7, .c (.s (.k .i64 r45)))], [], [⟨(.ro false), 47, 1, l0.length, .w l0⟩, ⟨(.ro false), 47, 1, l1.length, .w l1⟩]⟩) (by kernel_rfl) (allP_cons.2 ⟨g6, (allP_cons.2 ⟨g7, (allP_cons.2 ⟨g8, (allP_cons.2 ⟨g9, allP_nil⟩)⟩)⟩)⟩) ?_
        refine W_seq ?_
        obtain ⟨r48, g10, h⟩ := bind_some' h
        obtain ⟨g11, h⟩ := gd_some h
        obtain ⟨g12, h⟩ := gd_some h
        obtain ⟨r53, g13, h⟩ := bind_some' h
        refine W_regL hT (ftL_cons (k := 2) (f := 60) (F := (pshift_ct n r48)) (pshift_ok n r48) (fun _ _ => True.intro) (ftL_cons (k := 7) (f := 60) (F := (pshift_ct n r53)) (pshift_ok n r53) (fun _ _ => True.intro) ftL_nil)) (by kernel_rfl) 7 [3, 4] [] [] [0, 6, 7, 8, 9] [0, 2, 3] (s' := ⟨[(0, .c (.wh 0)), (6, .c (.s (.k .i64 ((l1.length : Nat) : Int)))), (7, .c (.s (.k .i64 r45))), (8, .c (.sl 1 0 (((l1.length : Nat) : Int).toNat))), (9, .c (.wh 2))], [], [⟨(.ro false), 47, 1, l0.length, .w l0⟩, ⟨.row, 47, 1, r48.2, .w r48.1⟩, ⟨.row, 47, 1, r53.2, .w r53.1⟩]⟩) [(0, false), (6, false), (7, false), (50, false), (51, false), (52, false)] [[(0, false), (6, false), (7, false), (48, false), (51, false), (52, false)], [(0, false), (6, false), (7, false), (48, false), (49, false), (51, false), (52, false)]] (by kernel_rfl) ⟨_, (by kernel_rfl), (allP_cons.2 ⟨g10, (allP_cons.2 ⟨g11, (allP_cons.2 ⟨g12, (allP_cons.2 ⟨g13, allP_nil⟩)⟩)⟩)⟩)⟩ (fun sc hsc => match sc, hsc with | 0, _ => ⟨_, (by kernel_rfl), (allP_cons.2 ⟨g10, (allP_cons.2 ⟨g11, (allP_cons.2 ⟨g12, (allP_cons.2 ⟨g13, (allP_cons.2 ⟨g11, (allP_cons.2 ⟨g12, allP_nil⟩)⟩)⟩)⟩)⟩)⟩)⟩ | 1, _ => ⟨_, (by kernel_rfl), (allP_cons.2 ⟨g10, (allP_cons.2 ⟨g11, (allP_cons.2 ⟨g12, (allP_cons.2 ⟨g13, (allP_cons.2 ⟨g11, (allP_cons.2 ⟨g12, allP_nil⟩)⟩)⟩)⟩)⟩)⟩)⟩ | n + 2, h => absurd h (Nat.not_lt.2 (Nat.le_add_left 2 n))) ?_
        refine W_seq ?_
        obtain ⟨g14, h⟩ := gd_some h
        obtain ⟨g15, h⟩ := gd_some h
        obtain ⟨g16, h⟩ := gd_some h
        obtain ⟨g17, h⟩ := gd_some h
        obtain ⟨g18, h⟩ := gd_some h
        refine W_reg hT ftL_nil [] [] [0, 6, 7, 8, 9, 10] [0, 1, 2, 3] (s' := ⟨[(0, .c (.wh 0)), (6, .c (.s (.k .i64 ((l1.length : Nat) : Int)))), (7, .c (.s (.k .i64 r45))), (8, .c (.sl 1 0 (((l1.length : Nat) : Int).toNat))), (9, .c (.wh 2)), (10, .c (.wh 3))], [], [⟨(.ro false), 47, 1, l0.length, .w l0⟩, ⟨.row, 47, 1, r48.2, .w r48.1⟩, ⟨.row, 47, 1, r53.2, .w r53.1⟩, ⟨.row, 47, 1, ((((l0.length : Nat) : Int) - ((l1.length : Nat) : Int)) + 1).toNat, .w (List.replicate (((((l0.length : Nat) : Int) - ((l1.length : Nat) : Int)) + 1).toNat) 0)⟩]⟩) (by kernel_rfl) (allP_cons.2 ⟨g14, (allP_cons.2 ⟨g15, (allP_cons.2 ⟨g16, (allP_cons.2 ⟨g17, (allP_cons.2 ⟨g18, allP_nil⟩)⟩)⟩)⟩)⟩) ?_
        refine W_seq ?_
        refine W_seq ?_
        obtain ⟨g19, h⟩ := gd_some h
        refine W_reg hT ftL_nil [] [] [6, 7, 8, 9, 10, 11] [1, 2, 3] (s' := ⟨[(6, .c (.s (.k .i64 ((l1.length : Nat) : Int)))), (7, .c (.s (.k .i64 r45))), (8, .c (.sl 0 0 (((l1.length : Nat) : Int).toNat))), (9, .c (.wh 1)), (10, .c (.wh 2)), (11, .c (.s (.k .i64 (((l0.length : Nat) : Int) - ((l1.length : Nat) : Int)))))], [], [⟨.row, 47, 1, r48.2, .w r48.1⟩, ⟨.row, 47, 1, r53.2, .w r53.1⟩, ⟨.row, 47, 1, ((((l0.length : Nat) : Int) - ((l1.length : Nat) : Int)) + 1).toNat, .w (List.replicate (((((l0.length : Nat) : Int) - ((l1.length : Nat) : Int)) + 1).toNat) 0)⟩]⟩) (by kernel_rfl) (allP_cons.2 ⟨g19, allP_nil⟩) ?_
        refine W_block ?_
        refine W_co [.vw 8 true] [6, 7, 8, 9, 10, 11] [3, 1, 2] (s' := (pdivide_l1_E l0 l1 r45 r48 r53 r53.1 (List.replicate (((((l0.length : Nat) : Int) - ((l1.length : Nat) : Int)) + 1).toNat) 0) (((l0.length : Nat) : Int) - ((l1.length : Nat) : Int)))) (by kernel_rfl) (W_lp ((pdivide_l1_P n l0 l1 r45 r48 r53 r)) n (pdivide_l1_M h) ?_)
        rintro fu_l1 _ ⟨w9_18, w10_1, i11_1, rfl, h⟩
        cases fu_l1 with
        | zero => cases h
        | succ fu_l1 =>
          refine ⟨fu_l1, rfl, ?_⟩
          rw [pdivide_l1] at h
          refine W_seq ?_
          refine W_seq ?_
          refine W_reg hT ftL_nil [] [] [6, 7, 8, 9, 10, 11, 65] [0, 1, 2] (s' := ⟨[(6, .c (.s (.k .i64 ((l1.length : Nat) : Int)))), (7, .c (.s (.k .i64 r45))), (8, .c (.wh 0)), (9, .c (.wh 1)), (10, .c (.wh 2)), (11, .c (.s (.k .i64 i11_1))), (65, .c (.s (.b (decide ((0 : Int) ≤ i11_1)))))], [], [⟨(.ro true), 47, 1, ((l1.length : Nat) : Int).toNat, .w ((r48.1.drop 0).take (((l1.length : Nat) : Int).toNat))⟩, ⟨.row, 47, 1, r53.2, .w w9_18⟩, ⟨.row, 47, 1, ((((l0.length : Nat) : Int) - ((l1.length : Nat) : Int)) + 1).toNat, .w w10_1⟩]⟩) (by kernel_rfl) allP_nil ?_
          refine W_cond (b := (decide ((0 : Int) ≤ i11_1))) (by kernel_rfl) (fun g80 => ?_) (fun g80 => ?_)
          · replace h := bif_t h g80
            refine W_co [] [6, 7, 8, 9, 10, 11] [0, 1, 2] (s' := ⟨[(6, .c (.s (.k .i64 ((l1.length : Nat) : Int)))), (7, .c (.s (.k .i64 r45))), (8, .c (.wh 0)), (9, .c (.wh 1)), (10, .c (.wh 2)), (11, .c (.s (.k .i64 i11_1)))], [], [⟨(.ro true), 47, 1, ((l1.length : Nat) : Int).toNat, .w ((r48.1.drop 0).take (((l1.length : Nat) : Int).toNat))⟩, ⟨.row, 47, 1, r53.2, .w w9_18⟩, ⟨.row, 47, 1, ((((l0.length : Nat) : Int) - ((l1.length : Nat) : Int)) + 1).toNat, .w w10_1⟩]⟩) (by kernel_rfl) (W_skip ?_)
            refine W_seq ?_
            refine W_block ?_
            refine W_seq ?_
            obtain ⟨r71_2, g20, h⟩ := bind_some' h
            refine W_reg hT (ftL_cons (k := 3) (f := 61) (F := (pdigit_ct n r71_2)) (pdigit_ok n r71_2) (fun _ _ => True.intro) ftL_nil) [] [] [6, 7, 8, 9, 10, 11, 12] [0, 1, 2] (s' := ⟨[(6, .c (.s (.k .i64 ((l1.length : Nat) : Int)))), (7, .c (.s (.k .i64 r45))), (8, .c (.wh 0)), (9, .c (.wh 1)), (10, .c (.wh 2)), (11, .c (.s (.k .i64 i11_1))), (12, .c (.s (.u64 r71_2)))], [], [⟨(.ro true), 47, 1, ((l1.length : Nat) : Int).toNat, .w ((r48.1.drop 0).take (((l1.length : Nat) : Int).toNat))⟩, ⟨.row, 47, 1, r53.2, .w w9_18⟩, ⟨.row, 47, 1, ((((l0.length : Nat) : Int) - ((l1.length : Nat) : Int)) + 1).toNat, .w w10_1⟩]⟩) (by kernel_rfl) (allP_cons.2 ⟨g20, allP_nil⟩) ?_
            refine W_seq ?_
            refine W_reg hT ftL_nil [] [] [6, 7, 8, 9, 10, 11, 12, 13] [0, 1, 2] (s' := ⟨[(6, .c (.s (.k .i64 ((l1.length : Nat) : Int)))), (7, .c (.s (.k .i64 r45))), (8, .c (.wh 0)), (9, .c (.wh 1)), (10, .c (.wh 2)), (11, .c (.s (.k .i64 i11_1))), (12, .c (.s (.u64 r71_2))), (13, .c (.s (.k .i64 0)))], [], [⟨(.ro true), 47, 1, ((l1.length : Nat) : Int).toNat, .w ((r48.1.drop 0).take (((l1.length : Nat) : Int).toNat))⟩, ⟨.row, 47, 1, r53.2, .w w9_18⟩, ⟨.row, 47, 1, ((((l0.length : Nat) : Int) - ((l1.length : Nat) : Int)) + 1).toNat, .w w10_1⟩]⟩) (by kernel_rfl) allP_nil ?_
            refine W_seq ?_
            refine W_seq ?_
            refine W_reg hT ftL_nil [] [] [6, 7, 8, 9, 10, 11, 12, 13, 72, 73] [0, 1, 2] (s' := ⟨[(6, .c (.s (.k .i64 ((l1.length : Nat) : Int)))), (7, .c (.s (.k .i64 r45))), (8, .c (.wh 0)), (9, .c (.wh 1)), (10, .c (.wh 2)), (11, .c (.s (.k .i64 i11_1))), (12, .c (.s (.u64 r71_2))), (13, .c (.s (.k .i64 0))), (72, .c (.s (.k .i64 ((l1.length : Nat) : Int)))), (73, .c (.s (.k .i64 0)))], [], [⟨(.ro true), 47, 1, ((l1.length : Nat) : Int).toNat, .w ((r48.1.drop 0).take (((l1.length : Nat) : Int).toNat))⟩, ⟨.row, 47, 1, r53.2, .w w9_18⟩, ⟨.row, 47, 1, ((((l0.length : Nat) : Int) - ((l1.length : Nat) : Int)) + 1).toNat, .w w10_1⟩]⟩) (by kernel_rfl) allP_nil ?_
            refine W_block ?_
            refine W_co [] [6, 7, 8, 9, 10, 11, 12, 13, 72, 73] [0, 1, 2] (s' := (pdivide_l2_E l0 l1 r45 r48 r53 w10_1 i11_1 r71_2 w9_18 0 0)) (by kernel_rfl) (W_lp ((pdivide_l2_P n l0 l1 r45 r48 r53 w10_1 i11_1 r71_2 (pdivide_l1 n l0 l1 r45 r48 r53 fu_l1) r)) n (pdivide_l2_M h) ?_)
            rintro fu_l2 _ ⟨w9_23, i13_5, i73_5, rfl, h⟩
            cases fu_l2 with
            | zero => cases h
            | succ fu_l2 =>
              refine ⟨fu_l2, rfl, ?_⟩
              rw [pdivide_l2] at h
              refine W_seq ?_
              refine W_reg hT ftL_nil [] [] [6, 7, 8, 9, 10, 11, 12, 13, 72, 73, 74] [0, 1, 2] (s' := ⟨[(6, .c (.s (.k .i64 ((l1.length : Nat) : Int)))), (7, .c (.s (.k .i64 r45))), (8, .c (.wh 0)), (9, .c (.wh 1)), (10, .c (.wh 2)), (11, .c (.s (.k .i64 i11_1))), (12, .c (.s (.u64 r71_2))), (13, .c (.s (.k .i64 i13_5))), (72, .c (.s (.k .i64 ((l1.length : Nat) : Int)))), (73, .c (.s (.k .i64 i73_5))), (74, .c (.s (.b (decide (i73_5 < ((l1.length : Nat) : Int))))))], [], [⟨(.ro true), 47, 1, ((l1.length : Nat) : Int).toNat, .w ((r48.1.drop 0).take (((l1.length : Nat) : Int).toNat))⟩, ⟨.row, 47, 1, r53.2, .w w9_23⟩, ⟨.row, 47, 1, ((((l0.length : Nat) : Int) - ((l1.length : Nat) : Int)) + 1).toNat, .w w10_1⟩]⟩) (by kernel_rfl) allP_nil ?_
              refine W_seq ?_
              refine W_cond (b := (decide (i73_5 < ((l1.length : Nat) : Int)))) (by kernel_rfl) (fun g63 => ?_) (fun g63 => ?_)
              · replace h := bif_t h g63
                refine W_co [] [6, 7, 8, 9, 10, 11, 12, 13, 72, 73] [0, 1, 2] (s' := ⟨[(6, .c (.s (.k .i64 ((l1.length : Nat) : Int)))), (7, .c (.s (.k .i64 r45))), (8, .c (.wh 0)), (9, .c (.wh 1)), (10, .c (.wh 2)), (11, .c (.s (.k .i64 i11_1))), (12, .c (.s (.u64 r71_2))), (13, .c (.s (.k .i64 i13_5))), (72, .c (.s (.k .i64 ((l1.length : Nat) : Int)))), (73, .c (.s (.k .i64 i73_5)))], [], [⟨(.ro true), 47, 1, ((l1.length : Nat) : Int).toNat, .w ((r48.1.drop 0).take (((l1.length : Nat) : Int).toNat))⟩, ⟨.row, 47, 1, r53.2, .w w9_23⟩, ⟨.row, 47, 1, ((((l0.length : Nat) : Int) - ((l1.length : Nat) : Int)) + 1).toNat, .w w10_1⟩]⟩) (by kernel_rfl) (W_skip ?_)
                refine W_seq ?_
                refine W_block ?_
                refine W_seq ?_
                refine W_reg hT ftL_nil [] [] [6, 7, 8, 9, 10, 11, 12, 13, 14, 72, 73] [0, 1, 2] (s' := ⟨[(6, .c (.s (.k .i64 ((l1.length : Nat) : Int)))), (7, .c (.s (.k .i64 r45))), (8, .c (.wh 0)), (9, .c (.wh 1)), (10, .c (.wh 2)), (11, .c (.s (.k .i64 i11_1))), (12, .c (.s (.u64 r71_2))), (13, .c (.s (.k .i64 i13_5))), (14, .c (.s (.k .i64 i73_5))), (72, .c (.s (.k .i64 ((l1.length : Nat) : Int)))), (73, .c (.s (.k .i64 i73_5)))], [], [⟨(.ro true), 47, 1, ((l1.length : Nat) : Int).toNat, .w ((r48.1.drop 0).take (((l1.length : Nat) : Int).toNat))⟩, ⟨.row, 47, 1, r53.2, .w w9_23⟩, ⟨.row, 47, 1, ((((l0.length : Nat) : Int) - ((l1.length : Nat) : Int)) + 1).toNat, .w w10_1⟩]⟩) (by kernel_rfl) allP_nil ?_
                refine W_seq ?_
                obtain ⟨g21, h⟩ := gd_some h
                obtain ⟨g22, h⟩ := gd_some h
                refine W_reg hT ftL_nil [] [] [6, 7, 8, 9, 10, 11, 12, 13, 14, 15, 72, 73] [0, 1, 2] (s' := ⟨[(6, .c (.s (.k .i64 ((l1.length : Nat) : Int)))), (7, .c (.s (.k .i64 r45))), (8, .c (.wh 0)), (9, .c (.wh 1)), (10, .c (.wh 2)), (11, .c (.s (.k .i64 i11_1))), (12, .c (.s (.u64 r71_2))), (13, .c (.s (.k .i64 i13_5))), (14, .c (.s (.k .i64 i73_5))), (15, .c (.s (.u64 (r71_2 * ((((r48.1.drop 0).take (((l1.length : Nat) : Int).toNat)).getD i73_5.toNat 0).toUInt64))))), (72, .c (.s (.k .i64 ((l1.length : Nat) : Int)))), (73, .c (.s (.k .i64 i73_5)))], [], [⟨(.ro true), 47, 1, ((l1.length : Nat) : Int).toNat, .w ((r48.1.drop 0).take (((l1.length : Nat) : Int).toNat))⟩, ⟨.row, 47, 1, r53.2, .w w9_23⟩, ⟨.row, 47, 1, ((((l0.length : Nat) : Int) - ((l1.length : Nat) : Int)) + 1).toNat, .w w10_1⟩]⟩) (by kernel_rfl) (allP_cons.2 ⟨g21, (allP_cons.2 ⟨g22, allP_nil⟩)⟩) ?_
                refine W_seq ?_
                obtain ⟨g23, h⟩ := gd_some h
                obtain ⟨g24, h⟩ := gd_some h
                obtain ⟨g25, h⟩ := gd_some h
                obtain ⟨g26, h⟩ := gd_some h
                obtain ⟨g27, h⟩ := gd_some h
                refine W_reg hT ftL_nil [] [] [6, 7, 8, 9, 10, 11, 12, 14, 15, 16, 72, 73] [0, 1, 2] (s' := ⟨[(6, .c (.s (.k .i64 ((l1.length : Nat) : Int)))), (7, .c (.s (.k .i64 r45))), (8, .c (.wh 0)), (9, .c (.wh 1)), (10, .c (.wh 2)), (11, .c (.s (.k .i64 i11_1))), (12, .c (.s (.u64 r71_2))), (14, .c (.s (.k .i64 i73_5))), (15, .c (.s (.u64 (r71_2 * ((((r48.1.drop 0).take (((l1.length : Nat) : Int).toNat)).getD i73_5.toNat 0).toUInt64))))), (16, .c (.s (.k .i64 (((((w9_23.getD ((i73_5 + i11_1).toNat) 0).toNat : Nat) : Int) - i13_5) - ((((r71_2 * ((((r48.1.drop 0).take (((l1.length : Nat) : Int).toNat)).getD i73_5.toNat 0).toUInt64)).toUInt32).toNat : Nat) : Int))))), (72, .c (.s (.k .i64 ((l1.length : Nat) : Int)))), (73, .c (.s (.k .i64 i73_5)))], [], [⟨(.ro true), 47, 1, ((l1.length : Nat) : Int).toNat, .w ((r48.1.drop 0).take (((l1.length : Nat) : Int).toNat))⟩, ⟨.row, 47, 1, r53.2, .w w9_23⟩, ⟨.row, 47, 1, ((((l0.length : Nat) : Int) - ((l1.length : Nat) : Int)) + 1).toNat, .w w10_1⟩]⟩) (by kernel_rfl) (allP_cons.2 ⟨g23, (allP_cons.2 ⟨g24, (allP_cons.2 ⟨g25, (allP_cons.2 ⟨g26, (allP_cons.2 ⟨g27, allP_nil⟩)⟩)⟩)⟩)⟩) ?_
                obtain ⟨g28, h⟩ := gd_some h
                obtain ⟨g29, h⟩ := gd_some h
                obtain ⟨g30, h⟩ := gd_some h
                obtain ⟨g31, h⟩ := gd_some h
                obtain ⟨g32, h⟩ := gd_some h
                obtain ⟨g33, h⟩ := gd_some h
                obtain ⟨g34, h⟩ := gd_some h
                refine W_reg hT ftL_nil [] [] [6, 7, 8, 9, 10, 11, 12, 13, 72, 73] [0, 1, 2] (s' := ⟨[(6, .c (.s (.k .i64 ((l1.length : Nat) : Int)))), (7, .c (.s (.k .i64 r45))), (8, .c (.wh 0)), (9, .c (.wh 1)), (10, .c (.wh 2)), (11, .c (.s (.k .i64 i11_1))), (12, .c (.s (.u64 r71_2))), (13, .c (.s (.k .i64 ((IntKind.i64.wrap (((shr64 (r71_2 * ((((r48.1.drop 0).take (((l1.length : Nat) : Int).toNat)).getD i73_5.toNat 0).toUInt64)) 32).toNat : Nat) : Int)) - ((((((w9_23.getD ((i73_5 + i11_1).toNat) 0).toNat : Nat) : Int) - i13_5) - ((((r71_2 * ((((r48.1.drop 0).take (((l1.length : Nat) : Int).toNat)).getD i73_5.toNat 0).toUInt64)).toUInt32).toNat : Nat) : Int)) / 2 ^ 32))))), (72, .c (.s (.k .i64 ((l1.length : Nat) : Int)))), (73, .c (.s (.k .i64 i73_5)))], [], [⟨(.ro true), 47, 1, ((l1.length : Nat) : Int).toNat, .w ((r48.1.drop 0).take (((l1.length : Nat) : Int).toNat))⟩, ⟨.row, 47, 1, r53.2, .w (w9_23.set ((i73_5 + i11_1).toNat) (UInt32.ofInt (((((w9_23.getD ((i73_5 + i11_1).toNat) 0).toNat : Nat) : Int) - i13_5) - ((((r71_2 * ((((r48.1.drop 0).take (((l1.length : Nat) : Int).toNat)).getD i73_5.toNat 0).toUInt64)).toUInt32).toNat : Nat) : Int))))⟩, ⟨.row, 47, 1, ((((l0.length : Nat) : Int) - ((l1.length : Nat) : Int)) + 1).toNat, .w w10_1⟩]⟩) (by kernel_rfl) (allP_cons.2 ⟨g28, (allP_cons.2 ⟨g29, (allP_cons.2 ⟨g30, (allP_cons.2 ⟨g31, (allP_cons.2 ⟨g32, (allP_cons.2 ⟨g33, (allP_cons.2 ⟨g34, allP_nil⟩)⟩)⟩)⟩)⟩)⟩)⟩) ?_
                obtain ⟨g35, h⟩ := gd_some h
                refine W_reg hT ftL_nil [] [] [6, 7, 8, 9, 10, 11, 12, 13, 72, 73] [0, 1, 2] (s' := (pdivide_l2_E l0 l1 r45 r48 r53 w10_1 i11_1 r71_2 (w9_23.set ((i73_5 + i11_1).toNat) (UInt32.ofInt (((((w9_23.getD ((i73_5 + i11_1).toNat) 0).toNat : Nat) : Int) - i13_5) - ((((r71_2 * ((((r48.1.drop 0).take (((l1.length : Nat) : Int).toNat)).getD i73_5.toNat 0).toUInt64)).toUInt32).toNat : Nat) : Int)))) ((IntKind.i64.wrap (((shr64 (r71_2 * ((((r48.1.drop 0).take (((l1.length : Nat) : Int).toNat)).getD i73_5.toNat 0).toUInt64)) 32).toNat : Nat) : Int)) - ((((((w9_23.getD ((i73_5 + i11_1).toNat) 0).toNat : Nat) : Int) - i13_5) - ((((r71_2 * ((((r48.1.drop 0).take (((l1.length : Nat) : Int).toNat)).getD i73_5.toNat 0).toUInt64)).toUInt32).toNat : Nat) : Int)) / 2 ^ 32)) (i73_5 + 1))) (by kernel_rfl) (allP_cons.2 ⟨g35, allP_nil⟩) ?_
                exact pdivide_l2_M h
              · replace h := bif_f h g63
                refine W_co [] [6, 7, 8, 9, 10, 11, 12, 13] [0, 1, 2] (s' := ⟨[(6, .c (.s (.k .i64 ((l1.length : Nat) : Int)))), (7, .c (.s (.k .i64 r45))), (8, .c (.wh 0)), (9, .c (.wh 1)), (10, .c (.wh 2)), (11, .c (.s (.k .i64 i11_1))), (12, .c (.s (.u64 r71_2))), (13, .c (.s (.k .i64 i13_5)))], [], [⟨(.ro true), 47, 1, ((l1.length : Nat) : Int).toNat, .w ((r48.1.drop 0).take (((l1.length : Nat) : Int).toNat))⟩, ⟨.row, 47, 1, r53.2, .w w9_23⟩, ⟨.row, 47, 1, ((((l0.length : Nat) : Int) - ((l1.length : Nat) : Int)) + 1).toNat, .w w10_1⟩]⟩) (by kernel_rfl) (W_exit ?_)
                refine W_seq ?_
                obtain ⟨g36, h⟩ := gd_some h
                obtain ⟨g37, h⟩ := gd_some h
                obtain ⟨g38, h⟩ := gd_some h
                obtain ⟨g39, h⟩ := gd_some h
                refine W_reg hT ftL_nil [] [] [6, 7, 8, 9, 10, 11, 12, 17] [0, 1, 2] (s' := ⟨[(6, .c (.s (.k .i64 ((l1.length : Nat) : Int)))), (7, .c (.s (.k .i64 r45))), (8, .c (.wh 0)), (9, .c (.wh 1)), (10, .c (.wh 2)), (11, .c (.s (.k .i64 i11_1))), (12, .c (.s (.u64 r71_2))), (17, .c (.s (.k .i64 ((((w9_23.getD ((i11_1 + ((l1.length : Nat) : Int)).toNat) 0).toNat : Nat) : Int) - i13_5))))], [], [⟨(.ro true), 47, 1, ((l1.length : Nat) : Int).toNat, .w ((r48.1.drop 0).take (((l1.length : Nat) : Int).toNat))⟩, ⟨.row, 47, 1, r53.2, .w w9_23⟩, ⟨.row, 47, 1, ((((l0.length : Nat) : Int) - ((l1.length : Nat) : Int)) + 1).toNat, .w w10_1⟩]⟩) (by kernel_rfl) (allP_cons.2 ⟨g36, (allP_cons.2 ⟨g37, (allP_cons.2 ⟨g38, (allP_cons.2 ⟨g39, allP_nil⟩)⟩)⟩)⟩) ?_
                refine W_seq ?_
                obtain ⟨g40, h⟩ := gd_some h
                obtain ⟨g41, h⟩ := gd_some h
                obtain ⟨g42, h⟩ := gd_some h
                refine W_reg hT ftL_nil [] [] [6, 7, 8, 9, 10, 11, 12, 17] [0, 1, 2] (s' := ⟨[(6, .c (.s (.k .i64 ((l1.length : Nat) : Int)))), (7, .c (.s (.k .i64 r45))), (8, .c (.wh 0)), (9, .c (.wh 1)), (10, .c (.wh 2)), (11, .c (.s (.k .i64 i11_1))), (12, .c (.s (.u64 r71_2))), (17, .c (.s (.k .i64 ((((w9_23.getD ((i11_1 + ((l1.length : Nat) : Int)).toNat) 0).toNat : Nat) : Int) - i13_5))))], [], [⟨(.ro true), 47, 1, ((l1.length : Nat) : Int).toNat, .w ((r48.1.drop 0).take (((l1.length : Nat) : Int).toNat))⟩, ⟨.row, 47, 1, r53.2, .w (w9_23.set ((i11_1 + ((l1.length : Nat) : Int)).toNat) (UInt32.ofInt ((((w9_23.getD ((i11_1 + ((l1.length : Nat) : Int)).toNat) 0).toNat : Nat) : Int) - i13_5)))⟩, ⟨.row, 47, 1, ((((l0.length : Nat) : Int) - ((l1.length : Nat) : Int)) + 1).toNat, .w w10_1⟩]⟩) (by kernel_rfl) (allP_cons.2 ⟨g40, (allP_cons.2 ⟨g41, (allP_cons.2 ⟨g42, allP_nil⟩)⟩)⟩) ?_
                refine W_join (pdivide_j1_P n l0 l1 r45 r48 r53 w10_1 i11_1 (pdivide_l1 n l0 l1 r45 r48 r53 fu_l1) r) ?_ ?_
                · rintro _ ⟨w9_25, y12_5, rfl, h⟩
                  unfold pdivide_j1 at h
                  obtain ⟨g43, h⟩ := gd_some h
                  obtain ⟨g44, h⟩ := gd_some h
                  refine W_reg hT ftL_nil [] [] [6, 7, 8, 9, 10, 11] [0, 1, 2] (s' := ⟨[(6, .c (.s (.k .i64 ((l1.length : Nat) : Int)))), (7, .c (.s (.k .i64 r45))), (8, .c (.wh 0)), (9, .c (.wh 1)), (10, .c (.wh 2)), (11, .c (.s (.k .i64 i11_1)))], [], [⟨(.ro true), 47, 1, ((l1.length : Nat) : Int).toNat, .w ((r48.1.drop 0).take (((l1.length : Nat) : Int).toNat))⟩, ⟨.row, 47, 1, r53.2, .w w9_25⟩, ⟨.row, 47, 1, ((((l0.length : Nat) : Int) - ((l1.length : Nat) : Int)) + 1).toNat, .w (w10_1.set i11_1.toNat y12_5.toUInt32)⟩]⟩) (by kernel_rfl) (allP_cons.2 ⟨g43, (allP_cons.2 ⟨g44, allP_nil⟩)⟩) ?_
                  obtain ⟨g45, h⟩ := gd_some h
                  refine W_reg hT ftL_nil [] [] [6, 7, 8, 9, 10, 11] [0, 1, 2] (s' := (pdivide_l1_E l0 l1 r45 r48 r53 w9_25 (w10_1.set i11_1.toNat y12_5.toUInt32) (i11_1 - 1))) (by kernel_rfl) (allP_cons.2 ⟨g45, allP_nil⟩) ?_
                  exact pdivide_l1_M h
                · refine W_seq ?_
                  refine W_reg hT ftL_nil [] [] [6, 7, 8, 9, 10, 11, 12, 127] [0, 1, 2] (s' := ⟨[(6, .c (.s (.k .i64 ((l1.length : Nat) : Int)))), (7, .c (.s (.k .i64 r45))), (8, .c (.wh 0)), (9, .c (.wh 1)), (10, .c (.wh 2)), (11, .c (.s (.k .i64 i11_1))), (12, .c (.s (.u64 r71_2))), (127, .c (.s (.b (decide (((((w9_23.getD ((i11_1 + ((l1.length : Nat) : Int)).toNat) 0).toNat : Nat) : Int) - i13_5) < (0 : Int))))))], [], [⟨(.ro true), 47, 1, ((l1.length : Nat) : Int).toNat, .w ((r48.1.drop 0).take (((l1.length : Nat) : Int).toNat))⟩, ⟨.row, 47, 1, r53.2, .w (w9_23.set ((i11_1 + ((l1.length : Nat) : Int)).toNat) (UInt32.ofInt ((((w9_23.getD ((i11_1 + ((l1.length : Nat) : Int)).toNat) 0).toNat : Nat) : Int) - i13_5)))⟩, ⟨.row, 47, 1, ((((l0.length : Nat) : Int) - ((l1.length : Nat) : Int)) + 1).toNat, .w w10_1⟩]⟩) (by kernel_rfl) allP_nil ?_
                  refine W_cond (b := (decide (((((w9_23.getD ((i11_1 + ((l1.length : Nat) : Int)).toNat) 0).toNat : Nat) : Int) - i13_5) < (0 : Int)))) (by kernel_rfl) (fun g62 => ?_) (fun g62 => ?_)
                  · replace h := bif_t h g62
                    refine W_seq ?_
                    refine W_reg hT ftL_nil [] [] [6, 7, 8, 9, 10, 11, 12] [0, 1, 2] (s' := ⟨[(6, .c (.s (.k .i64 ((l1.length : Nat) : Int)))), (7, .c (.s (.k .i64 r45))), (8, .c (.wh 0)), (9, .c (.wh 1)), (10, .c (.wh 2)), (11, .c (.s (.k .i64 i11_1))), (12, .c (.s (.u64 (r71_2 - (1 : UInt64)))))], [], [⟨(.ro true), 47, 1, ((l1.length : Nat) : Int).toNat, .w ((r48.1.drop 0).take (((l1.length : Nat) : Int).toNat))⟩, ⟨.row, 47, 1, r53.2, .w (w9_23.set ((i11_1 + ((l1.length : Nat) : Int)).toNat) (UInt32.ofInt ((((w9_23.getD ((i11_1 + ((l1.length : Nat) : Int)).toNat) 0).toNat : Nat) : Int) - i13_5)))⟩, ⟨.row, 47, 1, ((((l0.length : Nat) : Int) - ((l1.length : Nat) : Int)) + 1).toNat, .w w10_1⟩]⟩) (by kernel_rfl) allP_nil ?_
                    refine W_seq ?_
                    refine W_reg hT ftL_nil [] [] [6, 7, 8, 9, 10, 11, 12, 18] [0, 1, 2] (s' := ⟨[(6, .c (.s (.k .i64 ((l1.length : Nat) : Int)))), (7, .c (.s (.k .i64 r45))), (8, .c (.wh 0)), (9, .c (.wh 1)), (10, .c (.wh 2)), (11, .c (.s (.k .i64 i11_1))), (12, .c (.s (.u64 (r71_2 - (1 : UInt64))))), (18, .c (.s (.u64 0)))], [], [⟨(.ro true), 47, 1, ((l1.length : Nat) : Int).toNat, .w ((r48.1.drop 0).take (((l1.length : Nat) : Int).toNat))⟩, ⟨.row, 47, 1, r53.2, .w (w9_23.set ((i11_1 + ((l1.length : Nat) : Int)).toNat) (UInt32.ofInt ((((w9_23.getD ((i11_1 + ((l1.length : Nat) : Int)).toNat) 0).toNat : Nat) : Int) - i13_5)))⟩, ⟨.row, 47, 1, ((((l0.length : Nat) : Int) - ((l1.length : Nat) : Int)) + 1).toNat, .w w10_1⟩]⟩) (by kernel_rfl) allP_nil ?_
                    refine W_seq ?_
                    refine W_seq ?_
                    refine W_reg hT ftL_nil [] [] [6, 7, 8, 9, 10, 11, 12, 18, 130, 131] [0, 1, 2] (s' := ⟨[(6, .c (.s (.k .i64 ((l1.length : Nat) : Int)))), (7, .c (.s (.k .i64 r45))), (8, .c (.wh 0)), (9, .c (.wh 1)), (10, .c (.wh 2)), (11, .c (.s (.k .i64 i11_1))), (12, .c (.s (.u64 (r71_2 - (1 : UInt64))))), (18, .c (.s (.u64 0))), (130, .c (.s (.k .i64 ((l1.length : Nat) : Int)))), (131, .c (.s (.k .i64 0)))], [], [⟨(.ro true), 47, 1, ((l1.length : Nat) : Int).toNat, .w ((r48.1.drop 0).take (((l1.length : Nat) : Int).toNat))⟩, ⟨.row, 47, 1, r53.2, .w (w9_23.set ((i11_1 + ((l1.length : Nat) : Int)).toNat) (UInt32.ofInt ((((w9_23.getD ((i11_1 + ((l1.length : Nat) : Int)).toNat) 0).toNat : Nat) : Int) - i13_5)))⟩, ⟨.row, 47, 1, ((((l0.length : Nat) : Int) - ((l1.length : Nat) : Int)) + 1).toNat, .w w10_1⟩]⟩) (by kernel_rfl) allP_nil ?_
                    refine W_block ?_
                    refine W_co [] [6, 7, 8, 9, 10, 11, 12, 18, 130, 131] [0, 1, 2] (s' := (pdivide_l3_E l0 l1 r45 r48 r53 w10_1 i11_1 r71_2 (w9_23.set ((i11_1 + ((l1.length : Nat) : Int)).toNat) (UInt32.ofInt ((((w9_23.getD ((i11_1 + ((l1.length : Nat) : Int)).toNat) 0).toNat : Nat) : Int) - i13_5))) 0 0)) (by kernel_rfl) (W_lp ((pdivide_l3_P n l0 l1 r45 r48 r53 w10_1 i11_1 r71_2 (pdivide_l1 n l0 l1 r45 r48 r53 fu_l1) r)) n (pdivide_l3_M h) ?_)
                    rintro fu_l3 _ ⟨w9_26, y18_11, i131_11, rfl, h⟩
                    cases fu_l3 with
                    | zero => cases h
                    | succ fu_l3 =>
                      refine ⟨fu_l3, rfl, ?_⟩
                      rw [pdivide_l3] at h
                      refine W_seq ?_
                      refine W_reg hT ftL_nil [] [] [6, 7, 8, 9, 10, 11, 12, 18, 130, 131, 132] [0, 1, 2] (s' := ⟨[(6, .c (.s (.k .i64 ((l1.length : Nat) : Int)))), (7, .c (.s (.k .i64 r45))), (8, .c (.wh 0)), (9, .c (.wh 1)), (10, .c (.wh 2)), (11, .c (.s (.k .i64 i11_1))), (12, .c (.s (.u64 (r71_2 - (1 : UInt64))))), (18, .c (.s (.u64 y18_11))), (130, .c (.s (.k .i64 ((l1.length : Nat) : Int)))), (131, .c (.s (.k .i64 i131_11))), (132, .c (.s (.b (decide (i131_11 < ((l1.length : Nat) : Int))))))], [], [⟨(.ro true), 47, 1, ((l1.length : Nat) : Int).toNat, .w ((r48.1.drop 0).take (((l1.length : Nat) : Int).toNat))⟩, ⟨.row, 47, 1, r53.2, .w w9_26⟩, ⟨.row, 47, 1, ((((l0.length : Nat) : Int) - ((l1.length : Nat) : Int)) + 1).toNat, .w w10_1⟩]⟩) (by kernel_rfl) allP_nil ?_
                      refine W_seq ?_
                      refine W_cond (b := (decide (i131_11 < ((l1.length : Nat) : Int)))) (by kernel_rfl) (fun g61 => ?_) (fun g61 => ?_)
                      · replace h := bif_t h g61
                        refine W_co [] [6, 7, 8, 9, 10, 11, 12, 18, 130, 131] [0, 1, 2] (s' := ⟨[(6, .c (.s (.k .i64 ((l1.length : Nat) : Int)))), (7, .c (.s (.k .i64 r45))), (8, .c (.wh 0)), (9, .c (.wh 1)), (10, .c (.wh 2)), (11, .c (.s (.k .i64 i11_1))), (12, .c (.s (.u64 (r71_2 - (1 : UInt64))))), (18, .c (.s (.u64 y18_11))), (130, .c (.s (.k .i64 ((l1.length : Nat) : Int)))), (131, .c (.s (.k .i64 i131_11)))], [], [⟨(.ro true), 47, 1, ((l1.length : Nat) : Int).toNat, .w ((r48.1.drop 0).take (((l1.length : Nat) : Int).toNat))⟩, ⟨.row, 47, 1, r53.2, .w w9_26⟩, ⟨.row, 47, 1, ((((l0.length : Nat) : Int) - ((l1.length : Nat) : Int)) + 1).toNat, .w w10_1⟩]⟩) (by kernel_rfl) (W_skip ?_)
                        refine W_seq ?_
                        refine W_block ?_
                        refine W_seq ?_
                        refine W_reg hT ftL_nil [] [] [6, 7, 8, 9, 10, 11, 12, 18, 19, 130, 131] [0, 1, 2] (s' := ⟨[(6, .c (.s (.k .i64 ((l1.length : Nat) : Int)))), (7, .c (.s (.k .i64 r45))), (8, .c (.wh 0)), (9, .c (.wh 1)), (10, .c (.wh 2)), (11, .c (.s (.k .i64 i11_1))), (12, .c (.s (.u64 (r71_2 - (1 : UInt64))))), (18, .c (.s (.u64 y18_11))), (19, .c (.s (.k .i64 i131_11))), (130, .c (.s (.k .i64 ((l1.length : Nat) : Int)))), (131, .c (.s (.k .i64 i131_11)))], [], [⟨(.ro true), 47, 1, ((l1.length : Nat) : Int).toNat, .w ((r48.1.drop 0).take (((l1.length : Nat) : Int).toNat))⟩, ⟨.row, 47, 1, r53.2, .w w9_26⟩, ⟨.row, 47, 1, ((((l0.length : Nat) : Int) - ((l1.length : Nat) : Int)) + 1).toNat, .w w10_1⟩]⟩) (by kernel_rfl) allP_nil ?_
                        refine W_seq ?_
                        obtain ⟨g46, h⟩ := gd_some h
                        obtain ⟨g47, h⟩ := gd_some h
                        obtain ⟨g48, h⟩ := gd_some h
                        obtain ⟨g49, h⟩ := gd_some h
                        obtain ⟨g50, h⟩ := gd_some h
                        refine W_regD hT ftL_nil (by kernel_rfl) 14 [] [(6, false), (7, false), (8, false), (9, false), (10, false), (11, false), (12, false), (18, false), (19, false), (130, false), (131, false), (134, false), (147, false)] [] [6, 7, 8, 9, 10, 11, 12, 18, 19, 130, 131] [0, 1, 2] (s' := ⟨[(6, .c (.s (.k .i64 ((l1.length : Nat) : Int)))), (7, .c (.s (.k .i64 r45))), (8, .c (.wh 0)), (9, .c (.wh 1)), (10, .c (.wh 2)), (11, .c (.s (.k .i64 i11_1))), (12, .c (.s (.u64 (r71_2 - (1 : UInt64))))), (18, .c (.s (.u64 (y18_11 + (((w9_26.getD ((i131_11 + i11_1).toNat) 0).toUInt64) + ((((r48.1.drop 0).take (((l1.length : Nat) : Int).toNat)).getD i131_11.toNat 0).toUInt64)))))), (19, .c (.s (.k .i64 i131_11))), (130, .c (.s (.k .i64 ((l1.length : Nat) : Int)))), (131, .c (.s (.k .i64 i131_11)))], [], [⟨(.ro true), 47, 1, ((l1.length : Nat) : Int).toNat, .w ((r48.1.drop 0).take (((l1.length : Nat) : Int).toNat))⟩, ⟨.row, 47, 1, r53.2, .w w9_26⟩, ⟨.row, 47, 1, ((((l0.length : Nat) : Int) - ((l1.length : Nat) : Int)) + 1).toNat, .w w10_1⟩]⟩) (by kernel_rfl) (by kernel_rfl) (allP_cons.2 ⟨g46, (allP_cons.2 ⟨g47, (allP_cons.2 ⟨g48, (allP_cons.2 ⟨g49, (allP_cons.2 ⟨g50, allP_nil⟩)⟩)⟩)⟩)⟩) ?_
                        obtain ⟨g51, h⟩ := gd_some h
                        obtain ⟨g52, h⟩ := gd_some h
                        obtain ⟨g53, h⟩ := gd_some h
                        obtain ⟨g54, h⟩ := gd_some h
                        refine W_reg hT ftL_nil [] [] [6, 7, 8, 9, 10, 11, 12, 18, 130, 131] [0, 1, 2] (s' := ⟨[(6, .c (.s (.k .i64 ((l1.length : Nat) : Int)))), (7, .c (.s (.k .i64 r45))), (8, .c (.wh 0)), (9, .c (.wh 1)), (10, .c (.wh 2)), (11, .c (.s (.k .i64 i11_1))), (12, .c (.s (.u64 (r71_2 - (1 : UInt64))))), (18, .c (.s (.u64 (shr64 (y18_11 + (((w9_26.getD ((i131_11 + i11_1).toNat) 0).toUInt64) + ((((r48.1.drop 0).take (((l1.length : Nat) : Int).toNat)).getD i131_11.toNat 0).toUInt64))) 32)))), (130, .c (.s (.k .i64 ((l1.length : Nat) : Int)))), (131, .c (.s (.k .i64 i131_11)))], [], [⟨(.ro true), 47, 1, ((l1.length : Nat) : Int).toNat, .w ((r48.1.drop 0).take (((l1.length : Nat) : Int).toNat))⟩, ⟨.row, 47, 1, r53.2, .w (w9_26.set ((i131_11 + i11_1).toNat) ((y18_11 + (((w9_26.getD ((i131_11 + i11_1).toNat) 0).toUInt64) + ((((r48.1.drop 0).take (((l1.length : Nat) : Int).toNat)).getD i131_11.toNat 0).toUInt64))).toUInt32))⟩, ⟨.row, 47, 1, ((((l0.length : Nat) : Int) - ((l1.length : Nat) : Int)) + 1).toNat, .w w10_1⟩]⟩) (by kernel_rfl) (allP_cons.2 ⟨g51, (allP_cons.2 ⟨g52, (allP_cons.2 ⟨g53, (allP_cons.2 ⟨g54, allP_nil⟩)⟩)⟩)⟩) ?_
                        obtain ⟨g55, h⟩ := gd_some h
                        refine W_reg hT ftL_nil [] [] [6, 7, 8, 9, 10, 11, 12, 18, 130, 131] [0, 1, 2] (s' := (pdivide_l3_E l0 l1 r45 r48 r53 w10_1 i11_1 r71_2 (w9_26.set ((i131_11 + i11_1).toNat) ((y18_11 + (((w9_26.getD ((i131_11 + i11_1).toNat) 0).toUInt64) + ((((r48.1.drop 0).take (((l1.length : Nat) : Int).toNat)).getD i131_11.toNat 0).toUInt64))).toUInt32)) (shr64 (y18_11 + (((w9_26.getD ((i131_11 + i11_1).toNat) 0).toUInt64) + ((((r48.1.drop 0).take (((l1.length : Nat) : Int).toNat)).getD i131_11.toNat 0).toUInt64))) 32) (i131_11 + 1))) (by kernel_rfl) (allP_cons.2 ⟨g55, allP_nil⟩) ?_
                        exact pdivide_l3_M h
                      · replace h := bif_f h g61
                        refine W_co [] [6, 7, 8, 9, 10, 11, 12, 18] [0, 1, 2] (s' := ⟨[(6, .c (.s (.k .i64 ((l1.length : Nat) : Int)))), (7, .c (.s (.k .i64 r45))), (8, .c (.wh 0)), (9, .c (.wh 1)), (10, .c (.wh 2)), (11, .c (.s (.k .i64 i11_1))), (12, .c (.s (.u64 (r71_2 - (1 : UInt64))))), (18, .c (.s (.u64 y18_11)))], [], [⟨(.ro true), 47, 1, ((l1.length : Nat) : Int).toNat, .w ((r48.1.drop 0).take (((l1.length : Nat) : Int).toNat))⟩, ⟨.row, 47, 1, r53.2, .w w9_26⟩, ⟨.row, 47, 1, ((((l0.length : Nat) : Int) - ((l1.length : Nat) : Int)) + 1).toNat, .w w10_1⟩]⟩) (by kernel_rfl) (W_exit ?_)
                        obtain ⟨g56, h⟩ := gd_some h
                        obtain ⟨g57, h⟩ := gd_some h
                        obtain ⟨g58, h⟩ := gd_some h
                        obtain ⟨g59, h⟩ := gd_some h
                        obtain ⟨g60, h⟩ := gd_some h
                        refine W_reg hT ftL_nil [] [] [6, 7, 8, 9, 10, 11, 12] [0, 1, 2] (s' := (pdivide_j1_E l0 l1 r45 r48 r53 w10_1 i11_1 (w9_26.set ((i11_1 + ((l1.length : Nat) : Int)).toNat) ((w9_26.getD ((i11_1 + ((l1.length : Nat) : Int)).toNat) 0) + y18_11.toUInt32)) (r71_2 - (1 : UInt64)))) (by kernel_rfl) (allP_cons.2 ⟨g56, (allP_cons.2 ⟨g57, (allP_cons.2 ⟨g58, (allP_cons.2 ⟨g59, (allP_cons.2 ⟨g60, allP_nil⟩)⟩)⟩)⟩)⟩) ?_
                        exact pdivide_j1_M h
                  · replace h := bif_f h g62
                    refine W_co [] [6, 7, 8, 9, 10, 11, 12] [0, 1, 2] (s' := (pdivide_j1_E l0 l1 r45 r48 r53 w10_1 i11_1 (w9_23.set ((i11_1 + ((l1.length : Nat) : Int)).toNat) (UInt32.ofInt ((((w9_23.getD ((i11_1 + ((l1.length : Nat) : Int)).toNat) 0).toNat : Nat) : Int) - i13_5))) r71_2)) (by kernel_rfl) (W_skip ?_)
                    exact pdivide_j1_M h
          · replace h := bif_f h g80
            refine W_co [] [6, 7, 9, 10] [1, 2] (s' := ⟨[(6, .c (.s (.k .i64 ((l1.length : Nat) : Int)))), (7, .c (.s (.k .i64 r45))), (9, .c (.wh 0)), (10, .c (.wh 1))], [], [⟨.row, 47, 1, r53.2, .w w9_18⟩, ⟨.row, 47, 1, ((((l0.length : Nat) : Int) - ((l1.length : Nat) : Int)) + 1).toNat, .w w10_1⟩]⟩) (by kernel_rfl) (W_exit ?_)
            refine W_seq ?_
            refine W_seq ?_
            refine W_reg hT ftL_nil [] [] [6, 7, 9, 10, 174, 175] [0, 1] (s' := ⟨[(6, .c (.s (.k .i64 ((l1.length : Nat) : Int)))), (7, .c (.s (.k .i64 r45))), (9, .c (.wh 0)), (10, .c (.wh 1)), (174, .c (.s (.k .i64 ((l1.length : Nat) : Int)))), (175, .c (.s (.k .i64 0)))], [], [⟨.row, 47, 1, r53.2, .w w9_18⟩, ⟨.row, 47, 1, ((((l0.length : Nat) : Int) - ((l1.length : Nat) : Int)) + 1).toNat, .w w10_1⟩]⟩) (by kernel_rfl) allP_nil ?_
            refine W_block ?_
            refine W_co [] [6, 7, 9, 10, 174, 175] [0, 1] (s' := (pdivide_l4_E l0 l1 r45 r53 w10_1 w9_18 0)) (by kernel_rfl) (W_lp ((pdivide_l4_P n l0 l1 r45 r53 w10_1 r)) n (pdivide_l4_M h) ?_)
            rintro fu_l4 _ ⟨w9_27, i175_1, rfl, h⟩
            cases fu_l4 with
            | zero => cases h
            | succ fu_l4 =>
              refine ⟨fu_l4, rfl, ?_⟩
              rw [pdivide_l4] at h
              refine W_seq ?_
              refine W_reg hT ftL_nil [] [] [6, 7, 9, 10, 174, 175, 176] [0, 1] (s' := ⟨[(6, .c (.s (.k .i64 ((l1.length : Nat) : Int)))), (7, .c (.s (.k .i64 r45))), (9, .c (.wh 0)), (10, .c (.wh 1)), (174, .c (.s (.k .i64 ((l1.length : Nat) : Int)))), (175, .c (.s (.k .i64 i175_1))), (176, .c (.s (.b (decide (i175_1 < ((l1.length : Nat) : Int))))))], [], [⟨.row, 47, 1, r53.2, .w w9_27⟩, ⟨.row, 47, 1, ((((l0.length : Nat) : Int) - ((l1.length : Nat) : Int)) + 1).toNat, .w w10_1⟩]⟩) (by kernel_rfl) allP_nil ?_
              refine W_seq ?_
              refine W_cond (b := (decide (i175_1 < ((l1.length : Nat) : Int)))) (by kernel_rfl) (fun g79 => ?_) (fun g79 => ?_)
              · replace h := bif_t h g79
                refine W_co [] [6, 7, 9, 10, 174, 175] [0, 1] (s' := ⟨[(6, .c (.s (.k .i64 ((l1.length : Nat) : Int)))), (7, .c (.s (.k .i64 r45))), (9, .c (.wh 0)), (10, .c (.wh 1)), (174, .c (.s (.k .i64 ((l1.length : Nat) : Int)))), (175, .c (.s (.k .i64 i175_1)))], [], [⟨.row, 47, 1, r53.2, .w w9_27⟩, ⟨.row, 47, 1, ((((l0.length : Nat) : Int) - ((l1.length : Nat) : Int)) + 1).toNat, .w w10_1⟩]⟩) (by kernel_rfl) (W_skip ?_)
                refine W_seq ?_
                refine W_block ?_
                refine W_seq ?_
                refine W_reg hT ftL_nil [] [] [6, 7, 9, 10, 20, 174, 175] [0, 1] (s' := ⟨[(6, .c (.s (.k .i64 ((l1.length : Nat) : Int)))), (7, .c (.s (.k .i64 r45))), (9, .c (.wh 0)), (10, .c (.wh 1)), (20, .c (.s (.k .i64 i175_1))), (174, .c (.s (.k .i64 ((l1.length : Nat) : Int)))), (175, .c (.s (.k .i64 i175_1)))], [], [⟨.row, 47, 1, r53.2, .w w9_27⟩, ⟨.row, 47, 1, ((((l0.length : Nat) : Int) - ((l1.length : Nat) : Int)) + 1).toNat, .w w10_1⟩]⟩) (by kernel_rfl) allP_nil ?_
                obtain ⟨g64, h⟩ := gd_some h
                obtain ⟨g65, h⟩ := gd_some h
                obtain ⟨g66, h⟩ := gd_some h
                obtain ⟨g67, h⟩ := gd_some h
                obtain ⟨g68, h⟩ := gd_some h
                obtain ⟨g69, h⟩ := gd_some h
                obtain ⟨g70, h⟩ := gd_some h
                obtain ⟨g71, h⟩ := gd_some h
                obtain ⟨g72, h⟩ := gd_some h
                obtain ⟨g73, h⟩ := gd_some h
                refine W_regD hT ftL_nil (by kernel_rfl) 19 [] [(6, false), (7, false), (9, false), (10, false), (174, false), (175, false), (178, false), (179, false), (196, false)] [] [6, 7, 9, 10, 174, 175] [0, 1] (s' := ⟨[(6, .c (.s (.k .i64 ((l1.length : Nat) : Int)))), (7, .c (.s (.k .i64 r45))), (9, .c (.wh 0)), (10, .c (.wh 1)), (174, .c (.s (.k .i64 ((l1.length : Nat) : Int)))), (175, .c (.s (.k .i64 i175_1)))], [], [⟨.row, 47, 1, r53.2, .w (w9_27.set i175_1.toNat ((shr32 (w9_27.getD i175_1.toNat 0) r45) ||| ((shl64 ((w9_27.getD ((i175_1 + 1).toNat) 0).toUInt64) (32 - r45)).toUInt32)))⟩, ⟨.row, 47, 1, ((((l0.length : Nat) : Int) - ((l1.length : Nat) : Int)) + 1).toNat, .w w10_1⟩]⟩) (by kernel_rfl) (by kernel_rfl) (allP_cons.2 ⟨g64, (allP_cons.2 ⟨g65, (allP_cons.2 ⟨g66, (allP_cons.2 ⟨g67, (allP_cons.2 ⟨g68, (allP_cons.2 ⟨g69, (allP_cons.2 ⟨g70, (allP_cons.2 ⟨g71, (allP_cons.2 ⟨g72, (allP_cons.2 ⟨g73, allP_nil⟩)⟩)⟩)⟩)⟩)⟩)⟩)⟩)⟩)⟩) ?_
                obtain ⟨g74, h⟩ := gd_some h
                refine W_reg hT ftL_nil [] [] [6, 7, 9, 10, 174, 175] [0, 1] (s' := (pdivide_l4_E l0 l1 r45 r53 w10_1 (w9_27.set i175_1.toNat ((shr32 (w9_27.getD i175_1.toNat 0) r45) ||| ((shl64 ((w9_27.getD ((i175_1 + 1).toNat) 0).toUInt64) (32 - r45)).toUInt32))) (i175_1 + 1))) (by kernel_rfl) (allP_cons.2 ⟨g74, allP_nil⟩) ?_
                exact pdivide_l4_M h
              · replace h := bif_f h g79
                refine W_co [] [6, 9, 10] [0, 1] (s' := ⟨[(6, .c (.s (.k .i64 ((l1.length : Nat) : Int)))), (9, .c (.wh 0)), (10, .c (.wh 1))], [], [⟨.row, 47, 1, r53.2, .w w9_27⟩, ⟨.row, 47, 1, ((((l0.length : Nat) : Int) - ((l1.length : Nat) : Int)) + 1).toNat, .w w10_1⟩]⟩) (by kernel_rfl) (W_exit ?_)
                refine W_seq ?_
                obtain ⟨r200_1, g75, h⟩ := bind_some' h
                obtain ⟨g76, h⟩ := gd_some h
                obtain ⟨g77, h⟩ := gd_some h
                obtain ⟨r204_1, g78, h⟩ := bind_some' h
                refine W_regD hT (ftL_cons (k := 1) (f := 44) (F := (ptrim_ct n r200_1)) (ptrim_ok n r200_1) (fun _ _ => True.intro) (ftL_cons (k := 5) (f := 44) (F := (ptrim_ct n r204_1)) (ptrim_ok n r204_1) (fun _ _ => True.intro) ftL_nil)) (by kernel_rfl) 5 [] [(200, false), (203, false)] [] [4, 5] [1, 0] (s' := ⟨[(4, .c (.sl 0 0 r200_1.2)), (5, .c (.sl 1 0 r204_1.2))], [], [⟨.row, 47, 1, ((((l0.length : Nat) : Int) - ((l1.length : Nat) : Int)) + 1).toNat, .w w10_1⟩, ⟨.row, 47, 1, r53.2, .w w9_27⟩]⟩) (by kernel_rfl) (by kernel_rfl) (allP_cons.2 ⟨g75, (allP_cons.2 ⟨g76, (allP_cons.2 ⟨g77, (allP_cons.2 ⟨g78, allP_nil⟩)⟩)⟩)⟩) ?_
                refine W_co [.vw 4 true, .vw 5 true] [4, 5] [2, 3] (s' := (pdivide_R (((w10_1.drop 0).take r200_1.2), r200_1.2, ((w9_27.drop 0).take r204_1.2), r204_1.2))) (by kernel_rfl) (W_ret ?_)
                exact ⟨.inl rfl, by cases h; rfl⟩
  · rintro e s' ⟨he, rfl⟩
    refine ⟨he, fun a' w' hr => ?_⟩
    exact retS_ok tabO_ra hr (rs := [.tmp 4, .tmp 5]) rfl (objs := [0, 1]) (by kernel_rfl)
def ptimes_l2_E (a0 : List UInt32) (a1 : List UInt32) (i19_2 : Int) (w5_11 : List UInt32) (y8_8 : UInt64) (i26_8 : Int) : S := ⟨[(1, .c (.wh 0)), (5, .c (.wh 1)), (6, .c (.s (.k .i64 i19_2))), (7, .c (.s (.u32 (a0.getD i19_2.toNat 0)))), (8, .c (.s (.u64 y8_8))), (17, .c (.wh 2)), (18, .c (.s (.k .i64 ((a0.length : Nat) : Int)))), (19, .c (.s (.k .i64 i19_2))), (24, .c (.wh 0)), (25, .c (.s (.k .i64 ((a1.length : Nat) : Int)))), (26, .c (.s (.k .i64 i26_8)))], [], [⟨(.ro false), 47, 1, a1.length, .w a1⟩, ⟨.row, 47, 1, (((a0.length : Nat) : Int) + ((a1.length : Nat) : Int)).toNat, .w w5_11⟩, ⟨(.ro false), 47, 1, a0.length, .w a0⟩]⟩
def ptimes_l2_P (n : Nat) (a0 : List UInt32) (a1 : List UInt32) (i19_2 : Int) (k_l1 : (List UInt32) → Int → Option (List UInt32 × Nat)) (r : List UInt32 × Nat) (fu : Nat) : S → Prop := fun s => ∃ (w5_11 : List UInt32), ∃ (y8_8 : UInt64), ∃ (i26_8 : Int), s = ptimes_l2_E a0 a1 i19_2 w5_11 y8_8 i26_8 ∧ ptimes_l2 n a0 a1 i19_2 k_l1 fu w5_11 y8_8 i26_8 = some r
theorem ptimes_l2_M {n : Nat} {a0 : List UInt32} {a1 : List UInt32} {i19_2 : Int} {k_l1 : (List UInt32) → Int → Option (List UInt32 × Nat)} {w5_11 : List UInt32} {y8_8 : UInt64} {i26_8 : Int} {r : List UInt32 × Nat} {fu : Nat} (h : ptimes_l2 n a0 a1 i19_2 k_l1 fu w5_11 y8_8 i26_8 = some r) : ptimes_l2_P n a0 a1 i19_2 k_l1 r fu (ptimes_l2_E a0 a1 i19_2 w5_11 y8_8 i26_8) := ⟨w5_11, y8_8, i26_8, rfl, h⟩
def ptimes_l1_E (a0 : List UInt32) (a1 : List UInt32) (w5_9 : List UInt32) (i19_2 : Int) : S := ⟨[(1, .c (.wh 0)), (5, .c (.wh 1)), (17, .c (.wh 2)), (18, .c (.s (.k .i64 ((a0.length : Nat) : Int)))), (19, .c (.s (.k .i64 i19_2)))], [], [⟨(.ro false), 47, 1, a1.length, .w a1⟩, ⟨.row, 47, 1, (((a0.length : Nat) : Int) + ((a1.length : Nat) : Int)).toNat, .w w5_9⟩, ⟨(.ro false), 47, 1, a0.length, .w a0⟩]⟩
def ptimes_l1_P (n : Nat) (a0 : List UInt32) (a1 : List UInt32) (r : List UInt32 × Nat) (fu : Nat) : S → Prop := fun s => ∃ (w5_9 : List UInt32), ∃ (i19_2 : Int), s = ptimes_l1_E a0 a1 w5_9 i19_2 ∧ ptimes_l1 n a0 a1 fu w5_9 i19_2 = some r
theorem ptimes_l1_M {n : Nat} {a0 : List UInt32} {a1 : List UInt32} {w5_9 : List UInt32} {i19_2 : Int} {r : List UInt32 × Nat} {fu : Nat} (h : ptimes_l1 n a0 a1 fu w5_9 i19_2 = some r) : ptimes_l1_P n a0 a1 r fu (ptimes_l1_E a0 a1 w5_9 i19_2) := ⟨w5_9, i19_2, rfl, h⟩
def ptimes_R (r : List UInt32 × Nat) : S := ⟨[(4, .c (.wh 0))], [], [⟨(.ro true), 47, 1, r.2, .w r.1⟩]⟩
def ptimes_ct (n : Nat) (r : List UInt32 × Nat) : Ct := fun args H => match args with
  | [x0, x1] => (match aW H x0 with | some l0 => (match aW H x1 with | some l1 => some ([ptimes n l0 l1 = some r], shA H.length (.c (.wh 0)), shH H.length [⟨(.ro true), 47, 1, r.2, .w r.1⟩]) | none => none) | none => none)
  | _ => none
theorem ptimes_ok (n : Nat) (r : List UInt32 × Nat) : FnOk Try.prog Tr 50 (ptimes_ct n r) := by
  refine ⟨fun args H g av objs hF hg ρ w vals hG hp ha => ?_, _, Try.func50, by kernel_rfl, by kernel_rfl⟩
  obtain ⟨x0, x1, rfl⟩ : ∃ x0 x1, args = [x0, x1] := by
    unfold ptimes_ct at hF; split at hF
    · exact ⟨_, _, rfl⟩
    · cases hF
  cases e0 : aW H x0 with
  | none => simp only [ptimes_ct, e0, reduceCtorEq] at hF
  | some l0 =>
  cases e1 : aW H x1 with
  | none => simp only [ptimes_ct, e0, e1, reduceCtorEq] at hF
  | some l1 =>
  simp only [ptimes_ct, e0, e1, Option.some.injEq, Prod.mk.injEq] at hF
  obtain ⟨rfl, rfl, rfl⟩ := hF
  obtain ⟨v0, vals, rfl, k0, ha⟩ := F2.inv ha
  obtain ⟨v1, vals, rfl, k1, ha⟩ := F2.inv ha
  obtain rfl := F2.inv0 ha
  have hI : ∀ w', Kp (noB (fun _ => undef)) w w' → Tr w' := fun _ hk => Tr.keep hk.below hG
  have h : ptimes n l0 l1 = some r := hg
  obtain ⟨p0, s0, o0⟩ := aW_ok hp e0 (k0) 47
  obtain ⟨p1, s1, o1⟩ := aW_ok hp e1 (k1) 47
  have hR0 := rel0 (gv := (fun _ => undef)) (n := 67) (w := w) (args := [.c (.wh 0), .c (.wh 1)]) (H := [⟨.ro false, 47, 1, l0.length, .w l0⟩, ⟨.ro false, 47, 1, l1.length, .w l1⟩]) (gl := []) (hpL (ps := [p0, p1]) (F2.cons o0 (F2.cons o1 F2.nil))) (allRo_ok rfl) (F2.cons s0 (F2.cons s1 F2.nil)) GlR.nil (by simp)
  clear ha hp hg k0 k1 e0 e1
  refine calls_W Try.func50 rfl rfl hR0 (Q := fun e s => (e = .ret ∨ e = .normal) ∧ s = ptimes_R r) ?_ ?_
  · clear hR0
    unfold ptimes at h
    have hT := tabO_ra
    refine W_seq ?_
    refine W_reg hT ftL_nil [] [] [0, 1] [0, 1] (s' := ⟨[(0, .c (.wh 0)), (1, .c (.wh 1))], [], [⟨(.ro false), 47, 1, l0.length, .w l0⟩, ⟨(.ro false), 47, 1, l1.length, .w l1⟩]⟩) (by kernel_rfl) allP_nil ?_
    refine W_seq ?_
    obtain ⟨g1, h⟩ := gd_some h
    obtain ⟨g2, h⟩ := gd_some h
    obtain ⟨g3, h⟩ := gd_some h
    obtain ⟨g4, h⟩ := gd_some h
    refine W_reg hT ftL_nil [] [] [0, 1, 5] [0, 1, 2] (s' := ⟨[(0, .c (.wh 0)), (1, .c (.wh 1)), (5, .c (.wh 2))], [], [⟨(.ro false), 47, 1, l0.length, .w l0⟩, ⟨(.ro false), 47, 1, l1.length, .w l1⟩, ⟨.row, 47, 1, (((l0.length : Nat) : Int) + ((l1.length : Nat) : Int)).toNat, .w (List.replicate ((((l0.length : Nat) : Int) + ((l1.length : Nat) : Int)).toNat) 0)⟩]⟩) (by kernel_rfl) (allP_cons.2 ⟨g1, (allP_cons.2 ⟨g2, (allP_cons.2 ⟨g3, (allP_cons.2 ⟨g4, allP_nil⟩)⟩)⟩)⟩) ?_
    refine W_seq ?_
    refine W_seq ?_
    refine W_reg hT ftL_nil [] [] [1, 5, 17, 18, 19] [1, 2, 0] (s' := ⟨[(1, .c (.wh 0)), (5, .c (.wh 1)), (17, .c (.wh 2)), (18, .c (.s (.k .i64 ((l0.length : Nat) : Int)))), (19, .c (.s (.k .i64 0)))], [], [⟨(.ro false), 47, 1, l1.length, .w l1⟩, ⟨.row, 47, 1, (((l0.length : Nat) : Int) + ((l1.length : Nat) : Int)).toNat, .w (List.replicate ((((l0.length : Nat) : Int) + ((l1.length : Nat) : Int)).toNat) 0)⟩, ⟨(.ro false), 47, 1, l0.length, .w l0⟩]⟩) (by kernel_rfl) allP_nil ?_
    refine W_block ?_
    refine W_co [] [1, 5, 17, 18, 19] [0, 1, 2] (s' := (ptimes_l1_E l0 l1 (List.replicate ((((l0.length : Nat) : Int) + ((l1.length : Nat) : Int)).toNat) 0) 0)) (by kernel_rfl) (W_lp ((ptimes_l1_P n l0 l1 r)) n (ptimes_l1_M h) ?_)
    rintro fu_l1 _ ⟨w5_9, i19_2, rfl, h⟩
    cases fu_l1 with
    | zero => cases h
    | succ fu_l1 =>
      refine ⟨fu_l1, rfl, ?_⟩
      rw [ptimes_l1] at h
      refine W_seq ?_
      refine W_reg hT ftL_nil [] [] [1, 5, 17, 18, 19, 20] [0, 1, 2] (s' := ⟨[(1, .c (.wh 0)), (5, .c (.wh 1)), (17, .c (.wh 2)), (18, .c (.s (.k .i64 ((l0.length : Nat) : Int)))), (19, .c (.s (.k .i64 i19_2))), (20, .c (.s (.b (decide (i19_2 < ((l0.length : Nat) : Int))))))], [], [⟨(.ro false), 47, 1, l1.length, .w l1⟩, ⟨.row, 47, 1, (((l0.length : Nat) : Int) + ((l1.length : Nat) : Int)).toNat, .w w5_9⟩, ⟨(.ro false), 47, 1, l0.length, .w l0⟩]⟩) (by kernel_rfl) allP_nil ?_
      refine W_seq ?_
      refine W_cond (b := (decide (i19_2 < ((l0.length : Nat) : Int)))) (by kernel_rfl) (fun g23 => ?_) (fun g23 => ?_)
      · replace h := bif_t h g23
        refine W_co [] [1, 5, 17, 18, 19] [0, 1, 2] (s' := ⟨[(1, .c (.wh 0)), (5, .c (.wh 1)), (17, .c (.wh 2)), (18, .c (.s (.k .i64 ((l0.length : Nat) : Int)))), (19, .c (.s (.k .i64 i19_2)))], [], [⟨(.ro false), 47, 1, l1.length, .w l1⟩, ⟨.row, 47, 1, (((l0.length : Nat) : Int) + ((l1.length : Nat) : Int)).toNat, .w w5_9⟩, ⟨(.ro false), 47, 1, l0.length, .w l0⟩]⟩) (by kernel_rfl) (W_skip ?_)
        refine W_seq ?_
        refine W_block ?_
        refine W_seq ?_
        obtain ⟨g5, h⟩ := gd_some h
        obtain ⟨g6, h⟩ := gd_some h
        refine W_reg hT ftL_nil [] [] [1, 5, 6, 7, 17, 18, 19] [0, 1, 2] (s' := ⟨[(1, .c (.wh 0)), (5, .c (.wh 1)), (6, .c (.s (.k .i64 i19_2))), (7, .c (.s (.u32 (l0.getD i19_2.toNat 0)))), (17, .c (.wh 2)), (18, .c (.s (.k .i64 ((l0.length : Nat) : Int)))), (19, .c (.s (.k .i64 i19_2)))], [], [⟨(.ro false), 47, 1, l1.length, .w l1⟩, ⟨.row, 47, 1, (((l0.length : Nat) : Int) + ((l1.length : Nat) : Int)).toNat, .w w5_9⟩, ⟨(.ro false), 47, 1, l0.length, .w l0⟩]⟩) (by kernel_rfl) (allP_cons.2 ⟨g5, (allP_cons.2 ⟨g6, allP_nil⟩)⟩) ?_
        refine W_seq ?_
        refine W_reg hT ftL_nil [] [] [1, 5, 6, 7, 8, 17, 18, 19] [0, 1, 2] (s' := ⟨[(1, .c (.wh 0)), (5, .c (.wh 1)), (6, .c (.s (.k .i64 i19_2))), (7, .c (.s (.u32 (l0.getD i19_2.toNat 0)))), (8, .c (.s (.u64 0))), (17, .c (.wh 2)), (18, .c (.s (.k .i64 ((l0.length : Nat) : Int)))), (19, .c (.s (.k .i64 i19_2)))], [], [⟨(.ro false), 47, 1, l1.length, .w l1⟩, ⟨.row, 47, 1, (((l0.length : Nat) : Int) + ((l1.length : Nat) : Int)).toNat, .w w5_9⟩, ⟨(.ro false), 47, 1, l0.length, .w l0⟩]⟩) (by kernel_rfl) allP_nil ?_
        refine W_seq ?_
        refine W_seq ?_
        refine W_reg hT ftL_nil [] [] [1, 5, 6, 7, 8, 17, 18, 19, 24, 25, 26] [0, 1, 2] (s' := ⟨[(1, .c (.wh 0)), (5, .c (.wh 1)), (6, .c (.s (.k .i64 i19_2))), (7, .c (.s (.u32 (l0.getD i19_2.toNat 0)))), (8, .c (.s (.u64 0))), (17, .c (.wh 2)), (18, .c (.s (.k .i64 ((l0.length : Nat) : Int)))), (19, .c (.s (.k .i64 i19_2))), (24, .c (.wh 0)), (25, .c (.s (.k .i64 ((l1.length : Nat) : Int)))), (26, .c (.s (.k .i64 0)))], [], [⟨(.ro false), 47, 1, l1.length, .w l1⟩, ⟨.row, 47, 1, (((l0.length : Nat) : Int) + ((l1.length : Nat) : Int)).toNat, .w w5_9⟩, ⟨(.ro false), 47, 1, l0.length, .w l0⟩]⟩) (by kernel_rfl) allP_nil ?_
        refine W_block ?_
        refine W_co [] [1, 5, 6, 7, 8, 17, 18, 19, 24, 25, 26] [0, 1, 2] (s' := (ptimes_l2_E l0 l1 i19_2 w5_9 0 0)) (by kernel_rfl) (W_lp ((ptimes_l2_P n l0 l1 i19_2 (ptimes_l1 n l0 l1 fu_l1) r)) n (ptimes_l2_M h) ?_)
        rintro fu_l2 _ ⟨w5_11, y8_8, i26_8, rfl, h⟩
        cases fu_l2 with
        | zero => cases h
        | succ fu_l2 =>
          refine ⟨fu_l2, rfl, ?_⟩
          rw [ptimes_l2] at h
          refine W_seq ?_
          refine W_reg hT ftL_nil [] [] [1, 5, 6, 7, 8, 17, 18, 19, 24, 25, 26, 27] [0, 1, 2] (s' := ⟨[(1, .c (.wh 0)), (5, .c (.wh 1)), (6, .c (.s (.k .i64 i19_2))), (7, .c (.s (.u32 (l0.getD i19_2.toNat 0)))), (8, .c (.s (.u64 y8_8))), (17, .c (.wh 2)), (18, .c (.s (.k .i64 ((l0.length : Nat) : Int)))), (19, .c (.s (.k .i64 i19_2))), (24, .c (.wh 0)), (25, .c (.s (.k .i64 ((l1.length : Nat) : Int)))), (26, .c (.s (.k .i64 i26_8))), (27, .c (.s (.b (decide (i26_8 < ((l1.length : Nat) : Int))))))], [], [⟨(.ro false), 47, 1, l1.length, .w l1⟩, ⟨.row, 47, 1, (((l0.length : Nat) : Int) + ((l1.length : Nat) : Int)).toNat, .w w5_11⟩, ⟨(.ro false), 47, 1, l0.length, .w l0⟩]⟩) (by kernel_rfl) allP_nil ?_
          refine W_seq ?_
          refine W_cond (b := (decide (i26_8 < ((l1.length : Nat) : Int)))) (by kernel_rfl) (fun g21 => ?_) (fun g21 => ?_)
          · replace h := bif_t h g21
            refine W_co [] [1, 5, 6, 7, 8, 17, 18, 19, 24, 25, 26] [0, 1, 2] (s' := ⟨[(1, .c (.wh 0)), (5, .c (.wh 1)), (6, .c (.s (.k .i64 i19_2))), (7, .c (.s (.u32 (l0.getD i19_2.toNat 0)))), (8, .c (.s (.u64 y8_8))), (17, .c (.wh 2)), (18, .c (.s (.k .i64 ((l0.length : Nat) : Int)))), (19, .c (.s (.k .i64 i19_2))), (24, .c (.wh 0)), (25, .c (.s (.k .i64 ((l1.length : Nat) : Int)))), (26, .c (.s (.k .i64 i26_8)))], [], [⟨(.ro false), 47, 1, l1.length, .w l1⟩, ⟨.row, 47, 1, (((l0.length : Nat) : Int) + ((l1.length : Nat) : Int)).toNat, .w w5_11⟩, ⟨(.ro false), 47, 1, l0.length, .w l0⟩]⟩) (by kernel_rfl) (W_skip ?_)
            refine W_seq ?_
            refine W_block ?_
            refine W_seq ?_
            obtain ⟨g7, h⟩ := gd_some h
            obtain ⟨g8, h⟩ := gd_some h
            refine W_reg hT ftL_nil [] [] [1, 5, 6, 7, 8, 9, 10, 17, 18, 19, 24, 25, 26] [0, 1, 2] (s' := ⟨[(1, .c (.wh 0)), (5, .c (.wh 1)), (6, .c (.s (.k .i64 i19_2))), (7, .c (.s (.u32 (l0.getD i19_2.toNat 0)))), (8, .c (.s (.u64 y8_8))), (9, .c (.s (.k .i64 i26_8))), (10, .c (.s (.u32 (l1.getD i26_8.toNat 0)))), (17, .c (.wh 2)), (18, .c (.s (.k .i64 ((l0.length : Nat) : Int)))), (19, .c (.s (.k .i64 i19_2))), (24, .c (.wh 0)), (25, .c (.s (.k .i64 ((l1.length : Nat) : Int)))), (26, .c (.s (.k .i64 i26_8)))], [], [⟨(.ro false), 47, 1, l1.length, .w l1⟩, ⟨.row, 47, 1, (((l0.length : Nat) : Int) + ((l1.length : Nat) : Int)).toNat, .w w5_11⟩, ⟨(.ro false), 47, 1, l0.length, .w l0⟩]⟩) (by kernel_rfl) (allP_cons.2 ⟨g7, (allP_cons.2 ⟨g8, allP_nil⟩)⟩) ?_
            refine W_seq ?_
            obtain ⟨g9, h⟩ := gd_some h
            obtain ⟨g10, h⟩ := gd_some h
            obtain ⟨g11, h⟩ := gd_some h
            refine W_reg hT ftL_nil [] [] [1, 5, 6, 7, 8, 9, 17, 18, 19, 24, 25, 26] [0, 1, 2] (s' := ⟨[(1, .c (.wh 0)), (5, .c (.wh 1)), (6, .c (.s (.k .i64 i19_2))), (7, .c (.s (.u32 (l0.getD i19_2.toNat 0)))), (8, .c (.s (.u64 (y8_8 + ((((l0.getD i19_2.toNat 0).toUInt64) * ((l1.getD i26_8.toNat 0).toUInt64)) + ((w5_11.getD ((i19_2 + i26_8).toNat) 0).toUInt64)))))), (9, .c (.s (.k .i64 i26_8))), (17, .c (.wh 2)), (18, .c (.s (.k .i64 ((l0.length : Nat) : Int)))), (19, .c (.s (.k .i64 i19_2))), (24, .c (.wh 0)), (25, .c (.s (.k .i64 ((l1.length : Nat) : Int)))), (26, .c (.s (.k .i64 i26_8)))], [], [⟨(.ro false), 47, 1, l1.length, .w l1⟩, ⟨.row, 47, 1, (((l0.length : Nat) : Int) + ((l1.length : Nat) : Int)).toNat, .w w5_11⟩, ⟨(.ro false), 47, 1, l0.length, .w l0⟩]⟩) (by kernel_rfl) (allP_cons.2 ⟨g9, (allP_cons.2 ⟨g10, (allP_cons.2 ⟨g11, allP_nil⟩)⟩)⟩) ?_
            obtain ⟨g12, h⟩ := gd_some h
            obtain ⟨g13, h⟩ := gd_some h
            obtain ⟨g14, h⟩ := gd_some h
            obtain ⟨g15, h⟩ := gd_some h
            refine W_reg hT ftL_nil [] [] [1, 5, 6, 7, 8, 17, 18, 19, 24, 25, 26] [0, 1, 2] (s' := ⟨[(1, .c (.wh 0)), (5, .c (.wh 1)), (6, .c (.s (.k .i64 i19_2))), (7, .c (.s (.u32 (l0.getD i19_2.toNat 0)))), (8, .c (.s (.u64 (shr64 (y8_8 + ((((l0.getD i19_2.toNat 0).toUInt64) * ((l1.getD i26_8.toNat 0).toUInt64)) + ((w5_11.getD ((i19_2 + i26_8).toNat) 0).toUInt64))) 32)))), (17, .c (.wh 2)), (18, .c (.s (.k .i64 ((l0.length : Nat) : Int)))), (19, .c (.s (.k .i64 i19_2))), (24, .c (.wh 0)), (25, .c (.s (.k .i64 ((l1.length : Nat) : Int)))), (26, .c (.s (.k .i64 i26_8)))], [], [⟨(.ro false), 47, 1, l1.length, .w l1⟩, ⟨.row, 47, 1, (((l0.length : Nat) : Int) + ((l1.length : Nat) : Int)).toNat, .w (w5_11.set ((i19_2 + i26_8).toNat) ((y8_8 + ((((l0.getD i19_2.toNat 0).toUInt64) * ((l1.getD i26_8.toNat 0).toUInt64)) + ((w5_11.getD ((i19_2 + i26_8).toNat) 0).toUInt64))).toUInt32))⟩, ⟨(.ro false), 47, 1, l0.length, .w l0⟩]⟩) (by kernel_rfl) (allP_cons.2 ⟨g12, (allP_cons.2 ⟨g13, (allP_cons.2 ⟨g14, (allP_cons.2 ⟨g15, allP_nil⟩)⟩)⟩)⟩) ?_
            obtain ⟨g16, h⟩ := gd_some h
            refine W_reg hT ftL_nil [] [] [1, 5, 6, 7, 8, 17, 18, 19, 24, 25, 26] [0, 1, 2] (s' := (ptimes_l2_E l0 l1 i19_2 (w5_11.set ((i19_2 + i26_8).toNat) ((y8_8 + ((((l0.getD i19_2.toNat 0).toUInt64) * ((l1.getD i26_8.toNat 0).toUInt64)) + ((w5_11.getD ((i19_2 + i26_8).toNat) 0).toUInt64))).toUInt32)) (shr64 (y8_8 + ((((l0.getD i19_2.toNat 0).toUInt64) * ((l1.getD i26_8.toNat 0).toUInt64)) + ((w5_11.getD ((i19_2 + i26_8).toNat) 0).toUInt64))) 32) (i26_8 + 1))) (by kernel_rfl) (allP_cons.2 ⟨g16, allP_nil⟩) ?_
            exact ptimes_l2_M h
          · replace h := bif_f h g21
            refine W_co [] [1, 5, 6, 8, 17, 18, 19] [0, 1, 2] (s' := ⟨[(1, .c (.wh 0)), (5, .c (.wh 1)), (6, .c (.s (.k .i64 i19_2))), (8, .c (.s (.u64 y8_8))), (17, .c (.wh 2)), (18, .c (.s (.k .i64 ((l0.length : Nat) : Int)))), (19, .c (.s (.k .i64 i19_2)))], [], [⟨(.ro false), 47, 1, l1.length, .w l1⟩, ⟨.row, 47, 1, (((l0.length : Nat) : Int) + ((l1.length : Nat) : Int)).toNat, .w w5_11⟩, ⟨(.ro false), 47, 1, l0.length, .w l0⟩]⟩) (by kernel_rfl) (W_exit ?_)
            obtain ⟨g17, h⟩ := gd_some h
            obtain ⟨g18, h⟩ := gd_some h
            obtain ⟨g19, h⟩ := gd_some h
            refine W_reg hT ftL_nil [] [] [1, 5, 17, 18, 19] [0, 1, 2] (s' := ⟨[(1, .c (.wh 0)), (5, .c (.wh 1)), (17, .c (.wh 2)), (18, .c (.s (.k .i64 ((l0.length : Nat) : Int)))), (19, .c (.s (.k .i64 i19_2)))], [], [⟨(.ro false), 47, 1, l1.length, .w l1⟩, ⟨.row, 47, 1, (((l0.length : Nat) : Int) + ((l1.length : Nat) : Int)).toNat, .w (w5_11.set ((i19_2 + ((l1.length : Nat) : Int)).toNat) y8_8.toUInt32)⟩, ⟨(.ro false), 47, 1, l0.length, .w l0⟩]⟩) (by kernel_rfl) (allP_cons.2 ⟨g17, (allP_cons.2 ⟨g18, (allP_cons.2 ⟨g19, allP_nil⟩)⟩)⟩) ?_
            obtain ⟨g20, h⟩ := gd_some h
            refine W_reg hT ftL_nil [] [] [1, 5, 17, 18, 19] [0, 1, 2] (s' := (ptimes_l1_E l0 l1 (w5_11.set ((i19_2 + ((l1.length : Nat) : Int)).toNat) y8_8.toUInt32) (i19_2 + 1))) (by kernel_rfl) (allP_cons.2 ⟨g20, allP_nil⟩) ?_
            exact ptimes_l1_M h
      · replace h := bif_f h g23
        refine W_co [] [5] [1] (s' := ⟨[(5, .c (.wh 0))], [], [⟨.row, 47, 1, (((l0.length : Nat) : Int) + ((l1.length : Nat) : Int)).toNat, .w w5_9⟩]⟩) (by kernel_rfl) (W_exit ?_)
        refine W_seq ?_
        obtain ⟨r66_2, g22, h⟩ := bind_some' h
        refine W_reg hT (ftL_cons (k := 1) (f := 44) (F := (ptrim_ct n r66_2)) (ptrim_ok n r66_2) (fun _ _ => True.intro) ftL_nil) [] [] [4] [0] (s' := ⟨[(4, .c (.sl 0 0 r66_2.2))], [], [⟨.row, 47, 1, (((l0.length : Nat) : Int) + ((l1.length : Nat) : Int)).toNat, .w w5_9⟩]⟩) (by kernel_rfl) (allP_cons.2 ⟨g22, allP_nil⟩) ?_
        refine W_co [.vw 4 true] [4] [1] (s' := (ptimes_R (((w5_9.drop 0).take r66_2.2), r66_2.2))) (by kernel_rfl) (W_ret ?_)
        exact ⟨.inl rfl, by cases h; rfl⟩
  · rintro e s' ⟨he, rfl⟩
    refine ⟨he, fun a' w' hr => ?_⟩
    exact retS_ok tabO_ra hr (rs := [.tmp 4]) rfl (objs := [0]) (by kernel_rfl)
def prest_R (r : List UInt32 × Nat) : S := ⟨[(6, .c (.wh 0))], [], [⟨(.ro true), 47, 1, r.2, .w r.1⟩]⟩
def prest_ct (n : Nat) (r : List UInt32 × Nat) : Ct := fun args H => match args with
  | [x0, x1, x2] => (match aW H x0 with | some l0 => (match aW H x1 with | some l1 => (match aW H x2 with | some l2 => some ([prest n l0 l1 l2 = some r], shA H.length (.c (.wh 0)), shH H.length [⟨(.ro true), 47, 1, r.2, .w r.1⟩]) | none => none) | none => none) | none => none)
  | _ => none
theorem prest_ok (n : Nat) (r : List UInt32 × Nat) : FnOk Try.prog Tr 53 (prest_ct n r) := by
  refine ⟨fun args H g av objs hF hg ρ w vals hG hp ha => ?_, _, Try.func53, by kernel_rfl, by kernel_rfl⟩
  obtain ⟨x0, x1, x2, rfl⟩ : ∃ x0 x1 x2, args = [x0, x1, x2] := by
    unfold prest_ct at hF; split at hF
    · exact ⟨_, _, _, rfl⟩
    · cases hF
  cases e0 : aW H x0 with
  | none => simp only [prest_ct, e0, reduceCtorEq] at hF
  | some l0 =>
  cases e1 : aW H x1 with
  | none => simp only [prest_ct, e0, e1, reduceCtorEq] at hF
  | some l1 =>
  cases e2 : aW H x2 with
  | none => simp only [prest_ct, e0, e1, e2, reduceCtorEq] at hF
  | some l2 =>
  simp only [prest_ct, e0, e1, e2, Option.some.injEq, Prod.mk.injEq] at hF
  obtain ⟨rfl, rfl, rfl⟩ := hF
  obtain ⟨v0, vals, rfl, k0, ha⟩ := F2.inv ha
  obtain ⟨v1, vals, rfl, k1, ha⟩ := F2.inv ha
  obtain ⟨v2, vals, rfl, k2, ha⟩ := F2.inv ha
  obtain rfl := F2.inv0 ha
  have hI : ∀ w', Kp (noB (fun _ => undef)) w w' → Tr w' := fun _ hk => Tr.keep hk.below hG
  have h : prest n l0 l1 l2 = some r := hg
  obtain ⟨p0, s0, o0⟩ := aW_ok hp e0 (k0) 47
  obtain ⟨p1, s1, o1⟩ := aW_ok hp e1 (k1) 47
  obtain ⟨p2, s2, o2⟩ := aW_ok hp e2 (k2) 47
  have hR0 := rel0 (gv := (fun _ => undef)) (n := 18) (w := w) (args := [.c (.wh 0), .c (.wh 1), .c (.wh 2)]) (H := [⟨.ro false, 47, 1, l0.length, .w l0⟩, ⟨.ro false, 47, 1, l1.length, .w l1⟩, ⟨.ro false, 47, 1, l2.length, .w l2⟩]) (gl := []) (hpL (ps := [p0, p1, p2]) (F2.cons o0 (F2.cons o1 (F2.cons o2 F2.nil)))) (allRo_ok rfl) (F2.cons s0 (F2.cons s1 (F2.cons s2 F2.nil))) GlR.nil (by simp)
  clear ha hp hg k0 k1 k2 e0 e1 e2
  refine calls_W Try.func53 rfl rfl hR0 (Q := fun e s => (e = .ret ∨ e = .normal) ∧ s = prest_R r) ?_ ?_
  · clear hR0
    unfold prest at h
    have hT := tabO_ra
    refine W_seq ?_
    refine W_reg hT ftL_nil [] [] [0, 1, 2] [0, 1, 2] (s' := ⟨[(0, .c (.wh 0)), (1, .c (.wh 1)), (2, .c (.wh 2))], [], [⟨(.ro false), 47, 1, l0.length, .w l0⟩, ⟨(.ro false), 47, 1, l1.length, .w l1⟩, ⟨(.ro false), 47, 1, l2.length, .w l2⟩]⟩) (by kernel_rfl) allP_nil ?_
    refine W_seq ?_
    obtain ⟨r12, g1, h⟩ := bind_some' h
    obtain ⟨r14, g2, h⟩ := bind_some' h
    refine W_reg hT (ftL_cons (k := 2) (f := 50) (F := (ptimes_ct n r12)) (ptimes_ok n r12) (fun _ _ => True.intro) (ftL_cons (k := 4) (f := 51) (F := (pdivide_ct n r14)) (pdivide_ok n r14) (fun _ _ => True.intro) ftL_nil)) [] [] [8] [5] (s' := ⟨[(8, .c (.wh 0))], [], [⟨(.ro true), 47, 1, r14.2.2.2, .w r14.2.2.1⟩]⟩) (by kernel_rfl) (allP_cons.2 ⟨g1, (allP_cons.2 ⟨g2, allP_nil⟩)⟩) ?_
    refine W_seq ?_
    refine W_reg hT ftL_nil [] [] [6] [0] (s' := ⟨[(6, .c (.wh 0))], [], [⟨(.ro true), 47, 1, r14.2.2.2, .w r14.2.2.1⟩]⟩) (by kernel_rfl) allP_nil ?_
    refine W_co [] [6] [0] (s' := (prest_R (r14.2.2.1, r14.2.2.2))) (by kernel_rfl) (W_ret ?_)
    exact ⟨.inl rfl, by cases h; rfl⟩
  · rintro e s' ⟨he, rfl⟩
    refine ⟨he, fun a' w' hr => ?_⟩
    exact retS_ok tabO_ra hr (rs := [.tmp 6]) rfl (objs := [0]) (by kernel_rfl)
def pExp_j1_E (r17 : List UInt32 × Nat × List UInt32 × Nat × Bool) (r23 : List UInt32 × Nat × List UInt32 × Nat × Bool) (i13_1 : Int) (w12_7 : List UInt32) (m12_7 : Nat) : S := ⟨[(0, .c (.wh 0)), (1, .c (.wh 1)), (2, .c (.wh 2)), (12, .c (.wh 3)), (13, .c (.s (.k .i64 i13_1)))], [], [⟨(.ro false), 47, 1, r17.2.1, .w r17.1⟩, ⟨(.ro false), 47, 1, r17.2.2.2.1, .w r17.2.2.1⟩, ⟨(.ro false), 47, 1, r23.2.1, .w r23.1⟩, ⟨(.ro true), 47, 1, m12_7, .w w12_7⟩]⟩
def pExp_j1_P (n : Nat) (r17 : List UInt32 × Nat × List UInt32 × Nat × Bool) (r23 : List UInt32 × Nat × List UInt32 × Nat × Bool) (i13_1 : Int) (k_l1 : (List UInt32) → Nat → Int → Option (List UInt32 × Option Int)) (r : List UInt32 × Option Int) : S → Prop := fun s => ∃ (w12_7 : List UInt32), ∃ (m12_7 : Nat), s = pExp_j1_E r17 r23 i13_1 w12_7 m12_7 ∧ pExp_j1 n r17 r23 i13_1 k_l1 w12_7 m12_7 = some r
theorem pExp_j1_M {n : Nat} {r17 : List UInt32 × Nat × List UInt32 × Nat × Bool} {r23 : List UInt32 × Nat × List UInt32 × Nat × Bool} {i13_1 : Int} {k_l1 : (List UInt32) → Nat → Int → Option (List UInt32 × Option Int)} {w12_7 : List UInt32} {m12_7 : Nat} {r : List UInt32 × Option Int} (h : pExp_j1 n r17 r23 i13_1 k_l1 w12_7 m12_7 = some r) : pExp_j1_P n r17 r23 i13_1 k_l1 r (pExp_j1_E r17 r23 i13_1 w12_7 m12_7) := ⟨w12_7, m12_7, rfl, h⟩
def pExp_l1_E (r17 : List UInt32 × Nat × List UInt32 × Nat × Bool) (r23 : List UInt32 × Nat × List UInt32 × Nat × Bool) (w12_5 : List UInt32) (m12_5 : Nat) (i13_1 : Int) : S := ⟨[(0, .c (.wh 0)), (1, .c (.wh 1)), (2, .c (.wh 2)), (12, .c (.wh 3)), (13, .c (.s (.k .i64 i13_1)))], [], [⟨(.ro false), 47, 1, r17.2.1, .w r17.1⟩, ⟨(.ro false), 47, 1, r17.2.2.2.1, .w r17.2.2.1⟩, ⟨(.ro false), 47, 1, r23.2.1, .w r23.1⟩, ⟨(.ro true), 47, 1, m12_5, .w w12_5⟩]⟩
def pExp_l1_P (n : Nat) (r17 : List UInt32 × Nat × List UInt32 × Nat × Bool) (r23 : List UInt32 × Nat × List UInt32 × Nat × Bool) (r : List UInt32 × Option Int) (fu : Nat) : S → Prop := fun s => ∃ (w12_5 : List UInt32), ∃ (m12_5 : Nat), ∃ (i13_1 : Int), s = pExp_l1_E r17 r23 w12_5 m12_5 i13_1 ∧ pExp_l1 n r17 r23 fu w12_5 m12_5 i13_1 = some r
theorem pExp_l1_M {n : Nat} {r17 : List UInt32 × Nat × List UInt32 × Nat × Bool} {r23 : List UInt32 × Nat × List UInt32 × Nat × Bool} {w12_5 : List UInt32} {m12_5 : Nat} {i13_1 : Int} {r : List UInt32 × Option Int} {fu : Nat} (h : pExp_l1 n r17 r23 fu w12_5 m12_5 i13_1 = some r) : pExp_l1_P n r17 r23 r fu (pExp_l1_E r17 r23 w12_5 m12_5 i13_1) := ⟨w12_5, m12_5, i13_1, rfl, h⟩
def pExp_R (r : List UInt32 × Option Int) : S := ⟨[(6, .c (.wh 0)), (7, .c (.s (.er 33 .i64 r.2)))], [], [⟨.row, 47, 1, r.1.length, .w r.1⟩]⟩
def pExp_ct (n : Nat) (r : List UInt32 × Option Int) : Ct := fun args H => match args with
  | [x0, x1, x2] => (match aW H x0 with | some l0 => (match aW H x1 with | some l1 => (match aW H x2 with | some l2 => some ([pExp n l0 l1 l2 = some r], shA H.length (.t [.c (.wh 0), .c (.s (.er 33 .i64 r.2))]), shH H.length [⟨.row, 47, 1, r.1.length, .w r.1⟩]) | none => none) | none => none) | none => none)
  | _ => none
theorem pExp_ok (n : Nat) (r : List UInt32 × Option Int) : FnOk Try.prog Tr 38 (pExp_ct n r) := by
  refine ⟨fun args H g av objs hF hg ρ w vals hG hp ha => ?_, _, Try.func38, by kernel_rfl, by kernel_rfl⟩
  obtain ⟨x0, x1, x2, rfl⟩ : ∃ x0 x1 x2, args = [x0, x1, x2] := by
    unfold pExp_ct at hF; split at hF
    · exact ⟨_, _, _, rfl⟩
    · cases hF
  cases e0 : aW H x0 with
  | none => simp only [pExp_ct, e0, reduceCtorEq] at hF
  | some l0 =>
  cases e1 : aW H x1 with
  | none => simp only [pExp_ct, e0, e1, reduceCtorEq] at hF
  | some l1 =>
  cases e2 : aW H x2 with
  | none => simp only [pExp_ct, e0, e1, e2, reduceCtorEq] at hF
  | some l2 =>
  simp only [pExp_ct, e0, e1, e2, Option.some.injEq, Prod.mk.injEq] at hF
  obtain ⟨rfl, rfl, rfl⟩ := hF
  obtain ⟨v0, vals, rfl, k0, ha⟩ := F2.inv ha
  obtain ⟨v1, vals, rfl, k1, ha⟩ := F2.inv ha
  obtain ⟨v2, vals, rfl, k2, ha⟩ := F2.inv ha
  obtain rfl := F2.inv0 ha
  have hI : ∀ w', Kp (noB (fun _ => undef)) w w' → Tr w' := fun _ hk => Tr.keep hk.below hG
  have h : pExp n l0 l1 l2 = some r := hg
  obtain ⟨p0, s0, o0⟩ := aW_ok hp e0 (k0) 47
  obtain ⟨p1, s1, o1⟩ := aW_ok hp e1 (k1) 47
  obtain ⟨p2, s2, o2⟩ := aW_ok hp e2 (k2) 47
  have hR0 := rel0 (gv := (fun _ => undef)) (n := 74) (w := w) (args := [.c (.wh 0), .c (.wh 1), .c (.wh 2)]) (H := [⟨.ro false, 47, 1, l0.length, .w l0⟩, ⟨.ro false, 47, 1, l1.length, .w l1⟩, ⟨.ro false, 47, 1, l2.length, .w l2⟩]) (gl := []) (hpL (ps := [p0, p1, p2]) (F2.cons o0 (F2.cons o1 (F2.cons o2 F2.nil)))) (allRo_ok rfl) (F2.cons s0 (F2.cons s1 (F2.cons s2 F2.nil))) GlR.nil (by simp)
  clear ha hp hg k0 k1 k2 e0 e1 e2
  refine calls_W Try.func38 rfl rfl hR0 (Q := fun e s => (e = .ret ∨ e = .normal) ∧ s = pExp_R r) ?_ ?_
  · clear hR0
    unfold pExp at h
    have hT := tabO_ra
    refine W_seq ?_
    refine W_reg hT ftL_nil [] [] [0, 1, 2] [0, 1, 2] (s' := ⟨[(0, .c (.wh 0)), (1, .c (.wh 1)), (2, .c (.wh 2))], [], [⟨(.ro false), 47, 1, l0.length, .w l0⟩, ⟨(.ro false), 47, 1, l1.length, .w l1⟩, ⟨(.ro false), 47, 1, l2.length, .w l2⟩]⟩) (by kernel_rfl) allP_nil ?_
    refine W_seq ?_
    obtain ⟨r17, g1, h⟩ := bind_some' h
    refine W_reg hT (ftL_cons (k := 2) (f := 47) (F := (pmay_ct n r17)) (pmay_ok n r17) (fun _ _ => True.intro) ftL_nil) [] [] [0, 1, 2, 8] [3, 4, 2] (s' := ⟨[(0, .c (.wh 0)), (1, .c (.wh 1)), (2, .c (.wh 2)), (8, .c (.s (.b r17.2.2.2.2)))], [], [⟨(.ro false), 47, 1, r17.2.1, .w r17.1⟩, ⟨(.ro false), 47, 1, r17.2.2.2.1, .w r17.2.2.1⟩, ⟨(.ro false), 47, 1, l2.length, .w l2⟩]⟩) (by kernel_rfl) (allP_cons.2 ⟨g1, allP_nil⟩) ?_
    refine W_seq ?_
    obtain ⟨r23, g2, h⟩ := bind_some' h
    refine W_reg hT (ftL_cons (k := 1) (f := 47) (F := (pmay_ct n r23)) (pmay_ok n r23) (fun _ _ => True.intro) ftL_nil) [] [] [0, 1, 2, 8, 10] [0, 1, 3] (s' := ⟨[(0, .c (.wh 0)), (1, .c (.wh 1)), (2, .c (.wh 2)), (8, .c (.s (.b r17.2.2.2.2))), (10, .c (.s (.b r23.2.2.2.2)))], [], [⟨(.ro false), 47, 1, r17.2.1, .w r17.1⟩, ⟨(.ro false), 47, 1, r17.2.2.2.1, .w r17.2.2.1⟩, ⟨(.ro false), 47, 1, r23.2.1, .w r23.1⟩]⟩) (by kernel_rfl) (allP_cons.2 ⟨g2, allP_nil⟩) ?_
    refine W_seq ?_
    refine W_block ?_
    refine W_seq ?_
    rcases Bool.eq_false_or_eq_true (!r17.2.2.2.2) with g3 | g3
    · replace h := bif_t h g3
      refine W_reg hT ftL_nil [(2, true)] [] [0, 1, 2, 27] [0, 1, 2] (s' := ⟨[(0, .c (.wh 0)), (1, .c (.wh 1)), (2, .c (.wh 2)), (27, .c (.s (.b true)))], [], [⟨(.ro false), 47, 1, r17.2.1, .w r17.1⟩, ⟨(.ro false), 47, 1, r17.2.2.2.1, .w r17.2.2.1⟩, ⟨(.ro false), 47, 1, r23.2.1, .w r23.1⟩]⟩) (by kernel_rfl) (allP_cons.2 ⟨g3, allP_nil⟩) ?_
      refine W_cond (b := true) (by kernel_rfl) (fun _ => ?_) (fun hb => by cases hb)
      refine W_seq ?_
      refine W_reg hT ftL_nil [] [] [6, 7] [] (s' := ⟨[(6, .c (.nils)), (7, .c (.s (.er 33 .i64 (some 4))))], [], []⟩) (by kernel_rfl) allP_nil ?_
      refine W_co [.nil 6 47 1 (.w [])] [6, 7] [0] (s' := (pExp_R ([], (some 4)))) (by kernel_rfl) (W_ret ?_)
      exact ⟨.inl rfl, by cases h; rfl⟩
    · replace h := bif_f h g3
      refine W_reg hT ftL_nil [(2, false)] [] [0, 1, 2, 27] [0, 1, 2] (s' := ⟨[(0, .c (.wh 0)), (1, .c (.wh 1)), (2, .c (.wh 2)), (27, .c (.s (.b (!r23.2.2.2.2))))], [], [⟨(.ro false), 47, 1, r17.2.1, .w r17.1⟩, ⟨(.ro false), 47, 1, r17.2.2.2.1, .w r17.2.2.1⟩, ⟨(.ro false), 47, 1, r23.2.1, .w r23.1⟩]⟩) (by kernel_rfl) (allP_cons.2 ⟨g3, allP_nil⟩) ?_
      refine W_cond (b := (!r23.2.2.2.2)) (by kernel_rfl) (fun g20 => ?_) (fun g20 => ?_)
      · replace h := bif_t h g20
        refine W_seq ?_
        refine W_reg hT ftL_nil [] [] [6, 7] [] (s' := ⟨[(6, .c (.nils)), (7, .c (.s (.er 33 .i64 (some 4))))], [], []⟩) (by kernel_rfl) allP_nil ?_
        refine W_co [.nil 6 47 1 (.w [])] [6, 7] [0] (s' := (pExp_R ([], (some 4)))) (by kernel_rfl) (W_ret ?_)
        exact ⟨.inl rfl, by cases h; rfl⟩
      · replace h := bif_f h g20
        refine W_seq ?_
        refine W_reg hT ftL_nil [] [] [0, 1, 2, 35] [0, 1, 2] (s' := ⟨[(0, .c (.wh 0)), (1, .c (.wh 1)), (2, .c (.wh 2)), (35, .c (.s (.b (((r23.2.1 : Nat) : Int) == 0))))], [], [⟨(.ro false), 47, 1, r17.2.1, .w r17.1⟩, ⟨(.ro false), 47, 1, r17.2.2.2.1, .w r17.2.2.1⟩, ⟨(.ro false), 47, 1, r23.2.1, .w r23.1⟩]⟩) (by kernel_rfl) allP_nil ?_
        refine W_cond (b := (((r23.2.1 : Nat) : Int) == 0)) (by kernel_rfl) (fun g19 => ?_) (fun g19 => ?_)
        · replace h := bif_t h g19
          refine W_seq ?_
          refine W_reg hT ftL_nil [] [] [6, 7] [] (s' := ⟨[(6, .c (.nils)), (7, .c (.s (.er 33 .i64 (some 1))))], [], []⟩) (by kernel_rfl) allP_nil ?_
          refine W_co [.nil 6 47 1 (.w [])] [6, 7] [0] (s' := (pExp_R ([], (some 1)))) (by kernel_rfl) (W_ret ?_)
          exact ⟨.inl rfl, by cases h; rfl⟩
        · replace h := bif_f h g19
          refine W_co [] [0, 1, 2] [0, 1, 2] (s' := ⟨[(0, .c (.wh 0)), (1, .c (.wh 1)), (2, .c (.wh 2))], [], [⟨(.ro false), 47, 1, r17.2.1, .w r17.1⟩, ⟨(.ro false), 47, 1, r17.2.2.2.1, .w r17.2.2.1⟩, ⟨(.ro false), 47, 1, r23.2.1, .w r23.1⟩]⟩) (by kernel_rfl) (W_skip ?_)
          refine W_seq ?_
          obtain ⟨r43, g4, h⟩ := bind_some' h
          refine W_reg hT (ftL_cons (k := 2) (f := 51) (F := (pdivide_ct n r43)) (pdivide_ok n r43) (fun _ _ => True.intro) ftL_nil) [] [] [0, 1, 2, 12] [0, 1, 2, 5] (s' := ⟨[(0, .c (.wh 0)), (1, .c (.wh 1)), (2, .c (.wh 2)), (12, .c (.wh 3))], [], [⟨(.ro false), 47, 1, r17.2.1, .w r17.1⟩, ⟨(.ro false), 47, 1, r17.2.2.2.1, .w r17.2.2.1⟩, ⟨(.ro false), 47, 1, r23.2.1, .w r23.1⟩, ⟨(.ro true), 47, 1, r43.2.2.2, .w r43.2.2.1⟩]⟩) (by kernel_rfl) (allP_cons.2 ⟨g4, allP_nil⟩) ?_
          refine W_seq ?_
          refine W_seq ?_
          obtain ⟨g5, h⟩ := gd_some h
          obtain ⟨g6, h⟩ := gd_some h
          refine W_reg hT ftL_nil [] [] [0, 1, 2, 12, 13] [0, 1, 2, 3] (s' := ⟨[(0, .c (.wh 0)), (1, .c (.wh 1)), (2, .c (.wh 2)), (12, .c (.wh 3)), (13, .c (.s (.k .i64 ((32 * ((r17.2.2.2.1 : Nat) : Int)) - 1))))], [], [⟨(.ro false), 47, 1, r17.2.1, .w r17.1⟩, ⟨(.ro false), 47, 1, r17.2.2.2.1, .w r17.2.2.1⟩, ⟨(.ro false), 47, 1, r23.2.1, .w r23.1⟩, ⟨(.ro true), 47, 1, r43.2.2.2, .w r43.2.2.1⟩]⟩) (by kernel_rfl) (allP_cons.2 ⟨g5, (allP_cons.2 ⟨g6, allP_nil⟩)⟩) ?_
          refine W_block ?_
          refine W_co [] [0, 1, 2, 12, 13] [0, 1, 2, 3] (s' := (pExp_l1_E r17 r23 r43.2.2.1 r43.2.2.2 ((32 * ((r17.2.2.2.1 : Nat) : Int)) - 1))) (by kernel_rfl) (W_lp ((pExp_l1_P n r17 r23 r)) n (pExp_l1_M h) ?_)
          rintro fu_l1 _ ⟨w12_5, m12_5, i13_1, rfl, h⟩
          cases fu_l1 with
          | zero => cases h
          | succ fu_l1 =>
            refine ⟨fu_l1, rfl, ?_⟩
            rw [pExp_l1] at h
            refine W_seq ?_
            refine W_seq ?_
            refine W_reg hT ftL_nil [] [] [0, 1, 2, 12, 13, 51] [0, 1, 2, 3] (s' := ⟨[(0, .c (.wh 0)), (1, .c (.wh 1)), (2, .c (.wh 2)), (12, .c (.wh 3)), (13, .c (.s (.k .i64 i13_1))), (51, .c (.s (.b (decide ((0 : Int) ≤ i13_1)))))], [], [⟨(.ro false), 47, 1, r17.2.1, .w r17.1⟩, ⟨(.ro false), 47, 1, r17.2.2.2.1, .w r17.2.2.1⟩, ⟨(.ro false), 47, 1, r23.2.1, .w r23.1⟩, ⟨(.ro true), 47, 1, m12_5, .w w12_5⟩]⟩) (by kernel_rfl) allP_nil ?_
            refine W_cond (b := (decide ((0 : Int) ≤ i13_1))) (by kernel_rfl) (fun g18 => ?_) (fun g18 => ?_)
            · replace h := bif_t h g18
              refine W_co [] [0, 1, 2, 12, 13] [0, 1, 2, 3] (s' := ⟨[(0, .c (.wh 0)), (1, .c (.wh 1)), (2, .c (.wh 2)), (12, .c (.wh 3)), (13, .c (.s (.k .i64 i13_1)))], [], [⟨(.ro false), 47, 1, r17.2.1, .w r17.1⟩, ⟨(.ro false), 47, 1, r17.2.2.2.1, .w r17.2.2.1⟩, ⟨(.ro false), 47, 1, r23.2.1, .w r23.1⟩, ⟨(.ro true), 47, 1, m12_5, .w w12_5⟩]⟩) (by kernel_rfl) (W_skip ?_)
              refine W_join (pExp_j1_P n r17 r23 i13_1 (pExp_l1 n r17 r23 fu_l1) r) ?_ ?_
              · rintro _ ⟨w12_7, m12_7, rfl, h⟩
                unfold pExp_j1 at h
                obtain ⟨g7, h⟩ := gd_some h
                refine W_reg hT ftL_nil [] [] [0, 1, 2, 12, 13] [0, 1, 2, 3] (s' := (pExp_l1_E r17 r23 w12_7 m12_7 (i13_1 - 1))) (by kernel_rfl) (allP_cons.2 ⟨g7, allP_nil⟩) ?_
                exact pExp_l1_M h
              · refine W_block ?_
                refine W_seq ?_
                obtain ⟨r57_2, g8, h⟩ := bind_some' h
                refine W_reg hT (ftL_cons (k := 3) (f := 53) (F := (prest_ct n r57_2)) (prest_ok n r57_2) (fun _ _ => True.intro) ftL_nil) [] [] [0, 1, 2, 12, 13] [0, 1, 2, 4] (s' := ⟨[(0, .c (.wh 0)), (1, .c (.wh 1)), (2, .c (.wh 2)), (12, .c (.wh 3)), (13, .c (.s (.k .i64 i13_1)))], [], [⟨(.ro false), 47, 1, r17.2.1, .w r17.1⟩, ⟨(.ro false), 47, 1, r17.2.2.2.1, .w r17.2.2.1⟩, ⟨(.ro false), 47, 1, r23.2.1, .w r23.1⟩, ⟨(.ro true), 47, 1, r57_2.2, .w r57_2.1⟩]⟩) (by kernel_rfl) (allP_cons.2 ⟨g8, allP_nil⟩) ?_
                refine W_seq ?_
                obtain ⟨g9, h⟩ := gd_some h
                obtain ⟨g10, h⟩ := gd_some h
                obtain ⟨g11, h⟩ := gd_some h
                obtain ⟨g12, h⟩ := gd_some h
                obtain ⟨g13, h⟩ := gd_some h
                obtain ⟨g14, h⟩ := gd_some h
                refine W_reg hT ftL_nil [] [] [0, 1, 2, 12, 13, 67] [0, 1, 2, 3] (s' := ⟨[(0, .c (.wh 0)), (1, .c (.wh 1)), (2, .c (.wh 2)), (12, .c (.wh 3)), (13, .c (.s (.k .i64 i13_1))), (67, .c (.s (.b (((shr32 (r17.2.2.1.getD ((Int.tdiv i13_1 32).toNat) 0) (Int.tmod i13_1 32)) &&& (1 : UInt32)) == 1))))], [], [⟨(.ro false), 47, 1, r17.2.1, .w r17.1⟩, ⟨(.ro false), 47, 1, r17.2.2.2.1, .w r17.2.2.1⟩, ⟨(.ro false), 47, 1, r23.2.1, .w r23.1⟩, ⟨(.ro true), 47, 1, r57_2.2, .w r57_2.1⟩]⟩) (by kernel_rfl) (allP_cons.2 ⟨g9, (allP_cons.2 ⟨g10, (allP_cons.2 ⟨g11, (allP_cons.2 ⟨g12, (allP_cons.2 ⟨g13, (allP_cons.2 ⟨g14, allP_nil⟩)⟩)⟩)⟩)⟩)⟩) ?_
                refine W_cond (b := (((shr32 (r17.2.2.1.getD ((Int.tdiv i13_1 32).toNat) 0) (Int.tmod i13_1 32)) &&& (1 : UInt32)) == 1)) (by kernel_rfl) (fun g16 => ?_) (fun g16 => ?_)
                · replace h := bif_t h g16
                  obtain ⟨r71_2, g15, h⟩ := bind_some' h
                  refine W_reg hT (ftL_cons (k := 3) (f := 53) (F := (prest_ct n r71_2)) (prest_ok n r71_2) (fun _ _ => True.intro) ftL_nil) [] [] [0, 1, 2, 12, 13] [0, 1, 2, 4] (s' := (pExp_j1_E r17 r23 i13_1 r71_2.1 r71_2.2)) (by kernel_rfl) (allP_cons.2 ⟨g15, allP_nil⟩) ?_
                  exact pExp_j1_M h
                · replace h := bif_f h g16
                  refine W_co [] [0, 1, 2, 12, 13] [0, 1, 2, 3] (s' := (pExp_j1_E r17 r23 i13_1 r57_2.1 r57_2.2)) (by kernel_rfl) (W_skip ?_)
                  exact pExp_j1_M h
            · replace h := bif_f h g18
              refine W_co [] [12] [3] (s' := ⟨[(12, .c (.wh 0))], [], [⟨(.ro true), 47, 1, m12_5, .w w12_5⟩]⟩) (by kernel_rfl) (W_exit ?_)
              refine W_seq ?_
              obtain ⟨g17, h⟩ := gd_some h
              refine W_reg hT (ftL_cons (k := 1) (f := 54) (F := clone_ct) clone_h (fun _ _ => True.intro) ftL_nil) [] [] [6, 7] [1] (s' := ⟨[(6, .c (.wh 0)), (7, .c (.s (.v .nilIface)))], [], [⟨.row, 47, 1, w12_5.length, .w w12_5⟩]⟩) (by kernel_rfl) (allP_cons.2 ⟨g17, allP_nil⟩) ?_
              refine W_co [.er 7 33 .i64] [6, 7] [0] (s' := (pExp_R (w12_5, none))) (by kernel_rfl) (W_ret ?_)
              exact ⟨.inl rfl, by cases h; rfl⟩
  · rintro e s' ⟨he, rfl⟩
    refine ⟨he, fun a' w' hr => ?_⟩
    exact retS_ok tabO_ra hr (rs := [.tmp 6, .tmp 7]) rfl (objs := [0]) (by kernel_rfl)
def pat_R (r : UInt64) : S := ⟨[(4, .c (.s (.u64 r)))], [], []⟩
def pat_ct (n : Nat) (r : UInt64) : Ct := fun args H => match args with
  | [x0, x1] => (match aW H x0 with | some l0 => (match aI x1 with | some l1 => some ([pat n l0 l1 = some r], shA H.length (.c (.s (.u64 r))), shH H.length []) | none => none) | none => none)
  | _ => none
theorem pat_ok (n : Nat) (r : UInt64) : FnOk Try.prog Tr 48 (pat_ct n r) := by
  refine ⟨fun args H g av objs hF hg ρ w vals hG hp ha => ?_, _, Try.func48, by kernel_rfl, by kernel_rfl⟩
  obtain ⟨x0, x1, rfl⟩ : ∃ x0 x1, args = [x0, x1] := by
    unfold pat_ct at hF; split at hF
    · exact ⟨_, _, rfl⟩
    · cases hF
  cases e0 : aW H x0 with
  | none => simp only [pat_ct, e0, reduceCtorEq] at hF
  | some l0 =>
  cases e1 : aI x1 with
  | none => simp only [pat_ct, e0, e1, reduceCtorEq] at hF
  | some l1 =>
  simp only [pat_ct, e0, e1, Option.some.injEq, Prod.mk.injEq] at hF
  obtain ⟨rfl, rfl, rfl⟩ := hF
  obtain ⟨v0, vals, rfl, k0, ha⟩ := F2.inv ha
  obtain ⟨v1, vals, rfl, k1, ha⟩ := F2.inv ha
  obtain rfl := F2.inv0 ha
  have hI : ∀ w', Kp (noB (fun _ => undef)) w w' → Tr w' := fun _ hk => Tr.keep hk.below hG
  have h : pat n l0 l1 = some r := hg
  obtain ⟨p0, s0, o0⟩ := aW_ok hp e0 (k0) 47
  have s1 := aI_ok e1 (k1)
  have hR0 := rel0 (gv := (fun _ => undef)) (n := 14) (w := w) (args := [.c (.wh 0), .c (.s (.k .i64 l1))]) (H := [⟨.ro false, 47, 1, l0.length, .w l0⟩]) (gl := []) (hpL (ps := [p0]) (F2.cons o0 F2.nil)) (allRo_ok rfl) (F2.cons s0 (F2.cons s1 F2.nil)) GlR.nil (by simp)
  clear ha hp hg k0 k1 e0 e1
  refine calls_W Try.func48 rfl rfl hR0 (Q := fun e s => (e = .ret ∨ e = .normal) ∧ s = pat_R r) ?_ ?_
  · clear hR0
    unfold pat at h
    have hT := tabO_ra
    refine W_seq ?_
    refine W_reg hT ftL_nil [] [] [0, 1] [0] (s' := ⟨[(0, .c (.wh 0)), (1, .c (.s (.k .i64 l1)))], [], [⟨(.ro false), 47, 1, l0.length, .w l0⟩]⟩) (by kernel_rfl) allP_nil ?_
    refine W_seq ?_
    refine W_seq ?_
    refine W_reg hT ftL_nil [] [] [0, 1, 8] [0] (s' := ⟨[(0, .c (.wh 0)), (1, .c (.s (.k .i64 l1))), (8, .c (.s (.b (decide (l1 < ((l0.length : Nat) : Int))))))], [], [⟨(.ro false), 47, 1, l0.length, .w l0⟩]⟩) (by kernel_rfl) allP_nil ?_
    refine W_cond (b := (decide (l1 < ((l0.length : Nat) : Int)))) (by kernel_rfl) (fun g3 => ?_) (fun g3 => ?_)
    · replace h := bif_t h g3
      refine W_seq ?_
      obtain ⟨g1, h⟩ := gd_some h
      obtain ⟨g2, h⟩ := gd_some h
      refine W_reg hT ftL_nil [] [] [4] [] (s' := ⟨[(4, .c (.s (.u64 ((l0.getD l1.toNat 0).toUInt64))))], [], []⟩) (by kernel_rfl) (allP_cons.2 ⟨g1, (allP_cons.2 ⟨g2, allP_nil⟩)⟩) ?_
      refine W_co [] [4] [] (s' := (pat_R ((l0.getD l1.toNat 0).toUInt64))) (by kernel_rfl) (W_ret ?_)
      exact ⟨.inl rfl, by cases h; rfl⟩
    · replace h := bif_f h g3
      refine W_co [] [] [] (s' := ⟨[], [], []⟩) (by kernel_rfl) (W_skip ?_)
      refine W_seq ?_
      refine W_reg hT ftL_nil [] [] [4] [] (s' := ⟨[(4, .c (.s (.u64 0)))], [], []⟩) (by kernel_rfl) allP_nil ?_
      refine W_co [] [4] [] (s' := (pat_R 0)) (by kernel_rfl) (W_ret ?_)
      exact ⟨.inl rfl, by cases h; rfl⟩
  · rintro e s' ⟨he, rfl⟩
    refine ⟨he, fun a' w' hr => ?_⟩
    exact retS_ok tabO_ra hr (rs := [.tmp 4]) rfl (objs := []) (by kernel_rfl)
def pless_l1_E (a0 : List UInt32) (a1 : List UInt32) (w5_2 : List UInt32) (y6_2 : UInt64) (i14_2 : Int) : S := ⟨[(0, .c (.wh 0)), (1, .c (.wh 1)), (5, .c (.wh 2)), (6, .c (.s (.u64 y6_2))), (13, .c (.s (.k .i64 ((((a0.length : Nat) : Int).toNat : Nat) : Int)))), (14, .c (.s (.k .i64 i14_2)))], [], [⟨(.ro false), 47, 1, a0.length, .w a0⟩, ⟨(.ro false), 47, 1, a1.length, .w a1⟩, ⟨.row, 47, 1, ((a0.length : Nat) : Int).toNat, .w w5_2⟩]⟩
def pless_l1_P (n : Nat) (a0 : List UInt32) (a1 : List UInt32) (r : List UInt32 × Nat) (fu : Nat) : S → Prop := fun s => ∃ (w5_2 : List UInt32), ∃ (y6_2 : UInt64), ∃ (i14_2 : Int), s = pless_l1_E a0 a1 w5_2 y6_2 i14_2 ∧ pless_l1 n a0 a1 fu w5_2 y6_2 i14_2 = some r
theorem pless_l1_M {n : Nat} {a0 : List UInt32} {a1 : List UInt32} {w5_2 : List UInt32} {y6_2 : UInt64} {i14_2 : Int} {r : List UInt32 × Nat} {fu : Nat} (h : pless_l1 n a0 a1 fu w5_2 y6_2 i14_2 = some r) : pless_l1_P n a0 a1 r fu (pless_l1_E a0 a1 w5_2 y6_2 i14_2) := ⟨w5_2, y6_2, i14_2, rfl, h⟩
def pless_R (r : List UInt32 × Nat) : S := ⟨[(4, .c (.wh 0))], [], [⟨(.ro true), 47, 1, r.2, .w r.1⟩]⟩
def pless_ct (n : Nat) (r : List UInt32 × Nat) : Ct := fun args H => match args with
  | [x0, x1] => (match aW H x0 with | some l0 => (match aW H x1 with | some l1 => some ([pless n l0 l1 = some r], shA H.length (.c (.wh 0)), shH H.length [⟨(.ro true), 47, 1, r.2, .w r.1⟩]) | none => none) | none => none)
  | _ => none
theorem pless_ok (n : Nat) (r : List UInt32 × Nat) : FnOk Try.prog Tr 49 (pless_ct n r) := by
  refine ⟨fun args H g av objs hF hg ρ w vals hG hp ha => ?_, _, Try.func49, by kernel_rfl, by kernel_rfl⟩
  obtain ⟨x0, x1, rfl⟩ : ∃ x0 x1, args = [x0, x1] := by
    unfold pless_ct at hF; split at hF
    · exact ⟨_, _, rfl⟩
    · cases hF
  cases e0 : aW H x0 with
  | none => simp only [pless_ct, e0, reduceCtorEq] at hF
  | some l0 =>
  cases e1 : aW H x1 with
  | none => simp only [pless_ct, e0, e1, reduceCtorEq] at hF
  | some l1 =>
  simp only [pless_ct, e0, e1, Option.some.injEq, Prod.mk.injEq] at hF
  obtain ⟨rfl, rfl, rfl⟩ := hF
  obtain ⟨v0, vals, rfl, k0, ha⟩ := F2.inv ha
  obtain ⟨v1, vals, rfl, k1, ha⟩ := F2.inv ha
  obtain rfl := F2.inv0 ha
  have hI : ∀ w', Kp (noB (fun _ => undef)) w w' → Tr w' := fun _ hk => Tr.keep hk.below hG
  have h : pless n l0 l1 = some r := hg
  obtain ⟨p0, s0, o0⟩ := aW_ok hp e0 (k0) 47
  obtain ⟨p1, s1, o1⟩ := aW_ok hp e1 (k1) 47
  have hR0 := rel0 (gv := (fun _ => undef)) (n := 36) (w := w) (args := [.c (.wh 0), .c (.wh 1)]) (H := [⟨.ro false, 47, 1, l0.length, .w l0⟩, ⟨.ro false, 47, 1, l1.length, .w l1⟩]) (gl := []) (hpL (ps := [p0, p1]) (F2.cons o0 (F2.cons o1 F2.nil))) (allRo_ok rfl) (F2.cons s0 (F2.cons s1 F2.nil)) GlR.nil (by simp)
  clear ha hp hg k0 k1 e0 e1
  refine calls_W Try.func49 rfl rfl hR0 (Q := fun e s => (e = .ret ∨ e = .normal) ∧ s = pless_R r) ?_ ?_
  · clear hR0
    unfold pless at h
    have hT := tabO_ra
    refine W_seq ?_
    refine W_reg hT ftL_nil [] [] [0, 1] [0, 1] (s' := ⟨[(0, .c (.wh 0)), (1, .c (.wh 1))], [], [⟨(.ro false), 47, 1, l0.length, .w l0⟩, ⟨(.ro false), 47, 1, l1.length, .w l1⟩]⟩) (by kernel_rfl) allP_nil ?_
    refine W_seq ?_
    obtain ⟨g1, h⟩ := gd_some h
    obtain ⟨g2, h⟩ := gd_some h
    obtain ⟨g3, h⟩ := gd_some h
    refine W_reg hT ftL_nil [] [] [0, 1, 5, 6] [0, 1, 2] (s' := ⟨[(0, .c (.wh 0)), (1, .c (.wh 1)), (5, .c (.wh 2)), (6, .c (.s (.u64 0)))], [], [⟨(.ro false), 47, 1, l0.length, .w l0⟩, ⟨(.ro false), 47, 1, l1.length, .w l1⟩, ⟨.row, 47, 1, ((l0.length : Nat) : Int).toNat, .w (List.replicate (((l0.length : Nat) : Int).toNat) 0)⟩]⟩) (by kernel_rfl) (allP_cons.2 ⟨g1, (allP_cons.2 ⟨g2, (allP_cons.2 ⟨g3, allP_nil⟩)⟩)⟩) ?_
    refine W_seq ?_
    refine W_seq ?_
    refine W_reg hT ftL_nil [] [] [0, 1, 5, 6, 13, 14] [0, 1, 2] (s' := ⟨[(0, .c (.wh 0)), (1, .c (.wh 1)), (5, .c (.wh 2)), (6, .c (.s (.u64 0))), (13, .c (.s (.k .i64 ((((l0.length : Nat) : Int).toNat : Nat) : Int)))), (14, .c (.s (.k .i64 0)))], [], [⟨(.ro false), 47, 1, l0.length, .w l0⟩, ⟨(.ro false), 47, 1, l1.length, .w l1⟩, ⟨.row, 47, 1, ((l0.length : Nat) : Int).toNat, .w (List.replicate (((l0.length : Nat) : Int).toNat) 0)⟩]⟩) (by kernel_rfl) allP_nil ?_
    refine W_block ?_
    refine W_co [] [0, 1, 5, 6, 13, 14] [0, 1, 2] (s' := (pless_l1_E l0 l1 (List.replicate (((l0.length : Nat) : Int).toNat) 0) 0 0)) (by kernel_rfl) (W_lp ((pless_l1_P n l0 l1 r)) n (pless_l1_M h) ?_)
    rintro fu_l1 _ ⟨w5_2, y6_2, i14_2, rfl, h⟩
    cases fu_l1 with
    | zero => cases h
    | succ fu_l1 =>
      refine ⟨fu_l1, rfl, ?_⟩
      rw [pless_l1] at h
      refine W_seq ?_
      refine W_reg hT ftL_nil [] [] [0, 1, 5, 6, 13, 14, 15] [0, 1, 2] (s' := ⟨[(0, .c (.wh 0)), (1, .c (.wh 1)), (5, .c (.wh 2)), (6, .c (.s (.u64 y6_2))), (13, .c (.s (.k .i64 ((((l0.length : Nat) : Int).toNat : Nat) : Int)))), (14, .c (.s (.k .i64 i14_2))), (15, .c (.s (.b (decide (i14_2 < ((((l0.length : Nat) : Int).toNat : Nat) : Int))))))], [], [⟨(.ro false), 47, 1, l0.length, .w l0⟩, ⟨(.ro false), 47, 1, l1.length, .w l1⟩, ⟨.row, 47, 1, ((l0.length : Nat) : Int).toNat, .w w5_2⟩]⟩) (by kernel_rfl) allP_nil ?_
      refine W_seq ?_
      refine W_cond (b := (decide (i14_2 < ((((l0.length : Nat) : Int).toNat : Nat) : Int)))) (by kernel_rfl) (fun g11 => ?_) (fun g11 => ?_)
      · replace h := bif_t h g11
        refine W_co [] [0, 1, 5, 6, 13, 14] [0, 1, 2] (s' := ⟨[(0, .c (.wh 0)), (1, .c (.wh 1)), (5, .c (.wh 2)), (6, .c (.s (.u64 y6_2))), (13, .c (.s (.k .i64 ((((l0.length : Nat) : Int).toNat : Nat) : Int)))), (14, .c (.s (.k .i64 i14_2)))], [], [⟨(.ro false), 47, 1, l0.length, .w l0⟩, ⟨(.ro false), 47, 1, l1.length, .w l1⟩, ⟨.row, 47, 1, ((l0.length : Nat) : Int).toNat, .w w5_2⟩]⟩) (by kernel_rfl) (W_skip ?_)
        refine W_seq ?_
        refine W_block ?_
        refine W_seq ?_
        refine W_reg hT ftL_nil [] [] [0, 1, 5, 6, 7, 13, 14] [0, 1, 2] (s' := ⟨[(0, .c (.wh 0)), (1, .c (.wh 1)), (5, .c (.wh 2)), (6, .c (.s (.u64 y6_2))), (7, .c (.s (.k .i64 i14_2))), (13, .c (.s (.k .i64 ((((l0.length : Nat) : Int).toNat : Nat) : Int)))), (14, .c (.s (.k .i64 i14_2)))], [], [⟨(.ro false), 47, 1, l0.length, .w l0⟩, ⟨(.ro false), 47, 1, l1.length, .w l1⟩, ⟨.row, 47, 1, ((l0.length : Nat) : Int).toNat, .w w5_2⟩]⟩) (by kernel_rfl) allP_nil ?_
        refine W_seq ?_
        obtain ⟨r19_3, g4, h⟩ := bind_some' h
        obtain ⟨r22_3, g5, h⟩ := bind_some' h
        refine W_reg hT (ftL_cons (k := 2) (f := 48) (F := (pat_ct n r19_3)) (pat_ok n r19_3) (fun _ _ => True.intro) (ftL_cons (k := 5) (f := 48) (F := (pat_ct n r22_3)) (pat_ok n r22_3) (fun _ _ => True.intro) ftL_nil)) [] [] [0, 1, 5, 7, 8, 13, 14] [0, 1, 2] (s' := ⟨[(0, .c (.wh 0)), (1, .c (.wh 1)), (5, .c (.wh 2)), (7, .c (.s (.k .i64 i14_2))), (8, .c (.s (.u64 ((r19_3 - r22_3) - y6_2)))), (13, .c (.s (.k .i64 ((((l0.length : Nat) : Int).toNat : Nat) : Int)))), (14, .c (.s (.k .i64 i14_2)))], [], [⟨(.ro false), 47, 1, l0.length, .w l0⟩, ⟨(.ro false), 47, 1, l1.length, .w l1⟩, ⟨.row, 47, 1, ((l0.length : Nat) : Int).toNat, .w w5_2⟩]⟩) (by kernel_rfl) (allP_cons.2 ⟨g4, (allP_cons.2 ⟨g5, allP_nil⟩)⟩) ?_
        obtain ⟨g6, h⟩ := gd_some h
        obtain ⟨g7, h⟩ := gd_some h
        obtain ⟨g8, h⟩ := gd_some h
        refine W_reg hT ftL_nil [] [] [0, 1, 5, 6, 13, 14] [0, 1, 2] (s' := ⟨[(0, .c (.wh 0)), (1, .c (.wh 1)), (5, .c (.wh 2)), (6, .c (.s (.u64 (shr64 ((r19_3 - r22_3) - y6_2) 63)))), (13, .c (.s (.k .i64 ((((l0.length : Nat) : Int).toNat : Nat) : Int)))), (14, .c (.s (.k .i64 i14_2)))], [], [⟨(.ro false), 47, 1, l0.length, .w l0⟩, ⟨(.ro false), 47, 1, l1.length, .w l1⟩, ⟨.row, 47, 1, ((l0.length : Nat) : Int).toNat, .w (w5_2.set i14_2.toNat (((r19_3 - r22_3) - y6_2).toUInt32))⟩]⟩) (by kernel_rfl) (allP_cons.2 ⟨g6, (allP_cons.2 ⟨g7, (allP_cons.2 ⟨g8, allP_nil⟩)⟩)⟩) ?_
        obtain ⟨g9, h⟩ := gd_some h
        refine W_reg hT ftL_nil [] [] [0, 1, 5, 6, 13, 14] [0, 1, 2] (s' := (pless_l1_E l0 l1 (w5_2.set i14_2.toNat (((r19_3 - r22_3) - y6_2).toUInt32)) (shr64 ((r19_3 - r22_3) - y6_2) 63) (i14_2 + 1))) (by kernel_rfl) (allP_cons.2 ⟨g9, allP_nil⟩) ?_
        exact pless_l1_M h
      · replace h := bif_f h g11
        refine W_co [] [5] [2] (s' := ⟨[(5, .c (.wh 0))], [], [⟨.row, 47, 1, ((l0.length : Nat) : Int).toNat, .w w5_2⟩]⟩) (by kernel_rfl) (W_exit ?_)
        refine W_seq ?_
        obtain ⟨r35_2, g10, h⟩ := bind_some' h
        refine W_reg hT (ftL_cons (k := 1) (f := 44) (F := (ptrim_ct n r35_2)) (ptrim_ok n r35_2) (fun _ _ => True.intro) ftL_nil) [] [] [4] [0] (s' := ⟨[(4, .c (.sl 0 0 r35_2.2))], [], [⟨.row, 47, 1, ((l0.length : Nat) : Int).toNat, .w w5_2⟩]⟩) (by kernel_rfl) (allP_cons.2 ⟨g10, allP_nil⟩) ?_
        refine W_co [.vw 4 true] [4] [1] (s' := (pless_R (((w5_2.drop 0).take r35_2.2), r35_2.2))) (by kernel_rfl) (W_ret ?_)
        exact ⟨.inl rfl, by cases h; rfl⟩
  · rintro e s' ⟨he, rfl⟩
    refine ⟨he, fun a' w' hr => ?_⟩
    exact retS_ok tabO_ra hr (rs := [.tmp 4]) rfl (objs := [0]) (by kernel_rfl)
def pless2_R (r : List UInt32 × Nat) : S := ⟨[(6, .c (.wh 0))], [], [⟨(.ro true), 47, 1, r.2, .w r.1⟩]⟩
def pless2_ct (n : Nat) (r : List UInt32 × Nat) : Ct := fun args H => match args with
  | [x0, x1, x2] => (match aW H x0 with | some l0 => (match aW H x1 with | some l1 => (match aW H x2 with | some l2 => some ([pless2 n l0 l1 l2 = some r], shA H.length (.c (.wh 0)), shH H.length [⟨(.ro true), 47, 1, r.2, .w r.1⟩]) | none => none) | none => none) | none => none)
  | _ => none
theorem pless2_ok (n : Nat) (r : List UInt32 × Nat) : FnOk Try.prog Tr 52 (pless2_ct n r) := by
  refine ⟨fun args H g av objs hF hg ρ w vals hG hp ha => ?_, _, Try.func52, by kernel_rfl, by kernel_rfl⟩
  obtain ⟨x0, x1, x2, rfl⟩ : ∃ x0 x1 x2, args = [x0, x1, x2] := by
    unfold pless2_ct at hF; split at hF
    · exact ⟨_, _, _, rfl⟩
    · cases hF
  cases e0 : aW H x0 with
  | none => simp only [pless2_ct, e0, reduceCtorEq] at hF
  | some l0 =>
  cases e1 : aW H x1 with
  | none => simp only [pless2_ct, e0, e1, reduceCtorEq] at hF
  | some l1 =>
  cases e2 : aW H x2 with
  | none => simp only [pless2_ct, e0, e1, e2, reduceCtorEq] at hF
  | some l2 =>
  simp only [pless2_ct, e0, e1, e2, Option.some.injEq, Prod.mk.injEq] at hF
  obtain ⟨rfl, rfl, rfl⟩ := hF
  obtain ⟨v0, vals, rfl, k0, ha⟩ := F2.inv ha
  obtain ⟨v1, vals, rfl, k1, ha⟩ := F2.inv ha
  obtain ⟨v2, vals, rfl, k2, ha⟩ := F2.inv ha
  obtain rfl := F2.inv0 ha
  have hI : ∀ w', Kp (noB (fun _ => undef)) w w' → Tr w' := fun _ hk => Tr.keep hk.below hG
  have h : pless2 n l0 l1 l2 = some r := hg
  obtain ⟨p0, s0, o0⟩ := aW_ok hp e0 (k0) 47
  obtain ⟨p1, s1, o1⟩ := aW_ok hp e1 (k1) 47
  obtain ⟨p2, s2, o2⟩ := aW_ok hp e2 (k2) 47
  have hR0 := rel0 (gv := (fun _ => undef)) (n := 19) (w := w) (args := [.c (.wh 0), .c (.wh 1), .c (.wh 2)]) (H := [⟨.ro false, 47, 1, l0.length, .w l0⟩, ⟨.ro false, 47, 1, l1.length, .w l1⟩, ⟨.ro false, 47, 1, l2.length, .w l2⟩]) (gl := []) (hpL (ps := [p0, p1, p2]) (F2.cons o0 (F2.cons o1 (F2.cons o2 F2.nil)))) (allRo_ok rfl) (F2.cons s0 (F2.cons s1 (F2.cons s2 F2.nil))) GlR.nil (by simp)
  clear ha hp hg k0 k1 k2 e0 e1 e2
  refine calls_W Try.func52 rfl rfl hR0 (Q := fun e s => (e = .ret ∨ e = .normal) ∧ s = pless2_R r) ?_ ?_
  · clear hR0
    unfold pless2 at h
    have hT := tabO_ra
    refine W_seq ?_
    refine W_reg hT ftL_nil [] [] [0, 1, 2] [0, 1, 2] (s' := ⟨[(0, .c (.wh 0)), (1, .c (.wh 1)), (2, .c (.wh 2))], [], [⟨(.ro false), 47, 1, l0.length, .w l0⟩, ⟨(.ro false), 47, 1, l1.length, .w l1⟩, ⟨(.ro false), 47, 1, l2.length, .w l2⟩]⟩) (by kernel_rfl) allP_nil ?_
    refine W_seq ?_
    refine W_seq ?_
    obtain ⟨r9, g1, h⟩ := bind_some' h
    refine W_reg hT (ftL_cons (k := 2) (f := 32) (F := (pCmp_ct n r9)) (pCmp_ok n r9) (fun _ _ => True.intro) ftL_nil) [] [] [0, 1, 2, 10] [0, 1, 2] (s' := ⟨[(0, .c (.wh 0)), (1, .c (.wh 1)), (2, .c (.wh 2)), (10, .c (.s (.b (decide ((0 : Int) ≤ r9)))))], [], [⟨(.ro false), 47, 1, l0.length, .w l0⟩, ⟨(.ro false), 47, 1, l1.length, .w l1⟩, ⟨(.ro false), 47, 1, l2.length, .w l2⟩]⟩) (by kernel_rfl) (allP_cons.2 ⟨g1, allP_nil⟩) ?_
    refine W_cond (b := (decide ((0 : Int) ≤ r9))) (by kernel_rfl) (fun g5 => ?_) (fun g5 => ?_)
    · replace h := bif_t h g5
      refine W_seq ?_
      obtain ⟨r13, g2, h⟩ := bind_some' h
      refine W_reg hT (ftL_cons (k := 2) (f := 49) (F := (pless_ct n r13)) (pless_ok n r13) (fun _ _ => True.intro) ftL_nil) [] [] [6] [3] (s' := ⟨[(6, .c (.wh 0))], [], [⟨(.ro true), 47, 1, r13.2, .w r13.1⟩]⟩) (by kernel_rfl) (allP_cons.2 ⟨g2, allP_nil⟩) ?_
      refine W_co [] [6] [0] (s' := (pless2_R (r13.1, r13.2))) (by kernel_rfl) (W_ret ?_)
      exact ⟨.inl rfl, by cases h; rfl⟩
    · replace h := bif_f h g5
      refine W_co [] [0, 1, 2] [0, 1, 2] (s' := ⟨[(0, .c (.wh 0)), (1, .c (.wh 1)), (2, .c (.wh 2))], [], [⟨(.ro false), 47, 1, l0.length, .w l0⟩, ⟨(.ro false), 47, 1, l1.length, .w l1⟩, ⟨(.ro false), 47, 1, l2.length, .w l2⟩]⟩) (by kernel_rfl) (W_skip ?_)
      refine W_seq ?_
      obtain ⟨r17, g3, h⟩ := bind_some' h
      obtain ⟨r18, g4, h⟩ := bind_some' h
      refine W_reg hT (ftL_cons (k := 3) (f := 49) (F := (pless_ct n r17)) (pless_ok n r17) (fun _ _ => True.intro) (ftL_cons (k := 4) (f := 49) (F := (pless_ct n r18)) (pless_ok n r18) (fun _ _ => True.intro) ftL_nil)) [] [] [6] [4] (s' := ⟨[(6, .c (.wh 0))], [], [⟨(.ro true), 47, 1, r18.2, .w r18.1⟩]⟩) (by kernel_rfl) (allP_cons.2 ⟨g3, (allP_cons.2 ⟨g4, allP_nil⟩)⟩) ?_
      refine W_co [] [6] [0] (s' := (pless2_R (r18.1, r18.2))) (by kernel_rfl) (W_ret ?_)
      exact ⟨.inl rfl, by cases h; rfl⟩
  · rintro e s' ⟨he, rfl⟩
    refine ⟨he, fun a' w' hr => ?_⟩
    exact retS_ok tabO_ra hr (rs := [.tmp 6]) rfl (objs := [0]) (by kernel_rfl)
def pInv_j1_E (w9_7 : List UInt32) (m9_7 : Nat) (w10_7 : List UInt32) (m10_4 : Nat) : S := ⟨[(9, .c (.wh 0)), (10, .c (.wh 1))], [], [⟨(.ro false), 47, 1, m9_7, .w w9_7⟩, ⟨(.ro true), 47, 1, m10_4, .w w10_7⟩]⟩
def pInv_j1_P (n : Nat) (r : List UInt32 × Option Int) : S → Prop := fun s => ∃ (w9_7 : List UInt32), ∃ (m9_7 : Nat), ∃ (w10_7 : List UInt32), ∃ (m10_4 : Nat), s = pInv_j1_E w9_7 m9_7 w10_7 m10_4 ∧ pInv_j1 n w9_7 m9_7 w10_7 m10_4 = some r
theorem pInv_j1_M {n : Nat} {w9_7 : List UInt32} {m9_7 : Nat} {w10_7 : List UInt32} {m10_4 : Nat} {r : List UInt32 × Option Int} (h : pInv_j1 n w9_7 m9_7 w10_7 m10_4 = some r) : pInv_j1_P n r (pInv_j1_E w9_7 m9_7 w10_7 m10_4) := ⟨w9_7, m9_7, w10_7, m10_4, rfl, h⟩
def pInv_l1_E (r18 : List UInt32 × Nat × List UInt32 × Nat × Bool) (w8_7 : List UInt32) (m8_7 : Nat) (w9_9 : List UInt32) (m9_9 : Nat) (w10_9 : List UInt32) (m10_5 : Nat) (w11_7 : List UInt32) (m11_7 : Nat) : S := ⟨[(1, .c (.wh 0)), (8, .c (.wh 1)), (9, .c (.wh 2)), (10, .c (.wh 3)), (11, .c (.wh 4))], [], [⟨(.ro false), 47, 1, r18.2.2.2.1, .w r18.2.2.1⟩, ⟨(.ro true), 47, 1, m8_7, .w w8_7⟩, ⟨(.ro false), 47, 1, m9_9, .w w9_9⟩, ⟨(.ro true), 47, 1, m10_5, .w w10_9⟩, ⟨(.ro true), 47, 1, m11_7, .w w11_7⟩]⟩
def pInv_l1_P (n : Nat) (r18 : List UInt32 × Nat × List UInt32 × Nat × Bool) (r : List UInt32 × Option Int) (fu : Nat) : S → Prop := fun s => ∃ (w8_7 : List UInt32), ∃ (m8_7 : Nat), ∃ (w9_9 : List UInt32), ∃ (m9_9 : Nat), ∃ (w10_9 : List UInt32), ∃ (m10_5 : Nat), ∃ (w11_7 : List UInt32), ∃ (m11_7 : Nat), s = pInv_l1_E r18 w8_7 m8_7 w9_9 m9_9 w10_9 m10_5 w11_7 m11_7 ∧ pInv_l1 n r18 fu w8_7 m8_7 w9_9 m9_9 w10_9 m10_5 w11_7 m11_7 = some r
theorem pInv_l1_M {n : Nat} {r18 : List UInt32 × Nat × List UInt32 × Nat × Bool} {w8_7 : List UInt32} {m8_7 : Nat} {w9_9 : List UInt32} {m9_9 : Nat} {w10_9 : List UInt32} {m10_5 : Nat} {w11_7 : List UInt32} {m11_7 : Nat} {r : List UInt32 × Option Int} {fu : Nat} (h : pInv_l1 n r18 fu w8_7 m8_7 w9_9 m9_9 w10_9 m10_5 w11_7 m11_7 = some r) : pInv_l1_P n r18 r fu (pInv_l1_E r18 w8_7 m8_7 w9_9 m9_9 w10_9 m10_5 w11_7 m11_7) := ⟨w8_7, m8_7, w9_9, m9_9, w10_9, m10_5, w11_7, m11_7, rfl, h⟩
def pInv_R (r : List UInt32 × Option Int) : S := ⟨[(4, .c (.wh 0)), (5, .c (.s (.er 33 .i64 r.2)))], [], [⟨.row, 47, 1, r.1.length, .w r.1⟩]⟩
def pInv_ct (n : Nat) (r : List UInt32 × Option Int) : Ct := fun args H => match args with
  | [x0, x1] => (match aW H x0 with | some l0 => (match aW H x1 with | some l1 => some ([pInv n l0 l1 = some r], shA H.length (.t [.c (.wh 0), .c (.s (.er 33 .i64 r.2))]), shH H.length [⟨.row, 47, 1, r.1.length, .w r.1⟩]) | none => none) | none => none)
  | _ => none
theorem pInv_ok (n : Nat) (r : List UInt32 × Option Int) : FnOk Try.prog Tr 36 (pInv_ct n r) := by
  refine ⟨fun args H g av objs hF hg ρ w vals hG hp ha => ?_, _, Try.func36, by kernel_rfl, by kernel_rfl⟩
  obtain ⟨x0, x1, rfl⟩ : ∃ x0 x1, args = [x0, x1] := by
    unfold pInv_ct at hF; split at hF
    · exact ⟨_, _, rfl⟩
    · cases hF
  cases e0 : aW H x0 with
  | none => simp only [pInv_ct, e0, reduceCtorEq] at hF
  | some l0 =>
  cases e1 : aW H x1 with
  | none => simp only [pInv_ct, e0, e1, reduceCtorEq] at hF
  | some l1 =>
  simp only [pInv_ct, e0, e1, Option.some.injEq, Prod.mk.injEq] at hF
  obtain ⟨rfl, rfl, rfl⟩ := hF
  obtain ⟨v0, vals, rfl, k0, ha⟩ := F2.inv ha
  obtain ⟨v1, vals, rfl, k1, ha⟩ := F2.inv ha
  obtain rfl := F2.inv0 ha
  have hI : ∀ w', Kp (noB (fun _ => undef)) w w' → Tr w' := fun _ hk => Tr.keep hk.below hG
  have h : pInv n l0 l1 = some r := hg
  obtain ⟨p0, s0, o0⟩ := aW_ok hp e0 (k0) 47
  obtain ⟨p1, s1, o1⟩ := aW_ok hp e1 (k1) 47
  have hR0 := rel0 (gv := (fun _ => undef)) (n := 72) (w := w) (args := [.c (.wh 0), .c (.wh 1)]) (H := [⟨.ro false, 47, 1, l0.length, .w l0⟩, ⟨.ro false, 47, 1, l1.length, .w l1⟩]) (gl := []) (hpL (ps := [p0, p1]) (F2.cons o0 (F2.cons o1 F2.nil))) (allRo_ok rfl) (F2.cons s0 (F2.cons s1 F2.nil)) GlR.nil (by simp)
  clear ha hp hg k0 k1 e0 e1
  refine calls_W Try.func36 rfl rfl hR0 (Q := fun e s => (e = .ret ∨ e = .normal) ∧ s = pInv_R r) ?_ ?_
  · clear hR0
    unfold pInv at h
    have hT := tabO_ra
    refine W_seq ?_
    refine W_reg hT ftL_nil [] [] [0, 1] [0, 1] (s' := ⟨[(0, .c (.wh 0)), (1, .c (.wh 1))], [], [⟨(.ro false), 47, 1, l0.length, .w l0⟩, ⟨(.ro false), 47, 1, l1.length, .w l1⟩]⟩) (by kernel_rfl) allP_nil ?_
    refine W_seq ?_
    obtain ⟨r18, g1, h⟩ := bind_some' h
    refine W_reg hT (ftL_cons (k := 2) (f := 47) (F := (pmay_ct n r18)) (pmay_ok n r18) (fun _ _ => True.intro) ftL_nil) [] [] [0, 1, 6] [2, 3] (s' := ⟨[(0, .c (.wh 0)), (1, .c (.wh 1)), (6, .c (.s (.b r18.2.2.2.2)))], [], [⟨(.ro false), 47, 1, r18.2.1, .w r18.1⟩, ⟨(.ro false), 47, 1, r18.2.2.2.1, .w r18.2.2.1⟩]⟩) (by kernel_rfl) (allP_cons.2 ⟨g1, allP_nil⟩) ?_
    refine W_seq ?_
    refine W_block ?_
    refine W_seq ?_
    refine W_reg hT ftL_nil [] [] [0, 1, 22] [0, 1] (s' := ⟨[(0, .c (.wh 0)), (1, .c (.wh 1)), (22, .c (.s (.b (!r18.2.2.2.2))))], [], [⟨(.ro false), 47, 1, r18.2.1, .w r18.1⟩, ⟨(.ro false), 47, 1, r18.2.2.2.1, .w r18.2.2.1⟩]⟩) (by kernel_rfl) allP_nil ?_
    refine W_cond (b := (!r18.2.2.2.2)) (by kernel_rfl) (fun g13 => ?_) (fun g13 => ?_)
    · replace h := bif_t h g13
      refine W_seq ?_
      refine W_reg hT ftL_nil [] [] [4, 5] [] (s' := ⟨[(4, .c (.nils)), (5, .c (.s (.er 33 .i64 (some 4))))], [], []⟩) (by kernel_rfl) allP_nil ?_
      refine W_co [.nil 4 47 1 (.w [])] [4, 5] [0] (s' := (pInv_R ([], (some 4)))) (by kernel_rfl) (W_ret ?_)
      exact ⟨.inl rfl, by cases h; rfl⟩
    · replace h := bif_f h g13
      refine W_seq ?_
      rcases Bool.eq_false_or_eq_true (((r18.2.2.2.1 : Nat) : Int) == 0) with g2 | g2
      · replace h := bif_t h g2
        refine W_reg hT ftL_nil [(3, true)] [] [0, 1, 26] [0, 1] (s' := ⟨[(0, .c (.wh 0)), (1, .c (.wh 1)), (26, .c (.s (.b true)))], [], [⟨(.ro false), 47, 1, r18.2.1, .w r18.1⟩, ⟨(.ro false), 47, 1, r18.2.2.2.1, .w r18.2.2.1⟩]⟩) (by kernel_rfl) (allP_cons.2 ⟨g2, allP_nil⟩) ?_
        refine W_cond (b := true) (by kernel_rfl) (fun _ => ?_) (fun hb => by cases hb)
        refine W_seq ?_
        refine W_reg hT ftL_nil [] [] [4, 5] [] (s' := ⟨[(4, .c (.nils)), (5, .c (.s (.er 33 .i64 (some 1))))], [], []⟩) (by kernel_rfl) allP_nil ?_
        refine W_co [.nil 4 47 1 (.w [])] [4, 5] [0] (s' := (pInv_R ([], (some 1)))) (by kernel_rfl) (W_ret ?_)
        exact ⟨.inl rfl, by cases h; rfl⟩
      · replace h := bif_f h g2
        obtain ⟨r33, g3, h⟩ := bind_some' h
        refine W_reg hT (ftL_cons (k := 6) (f := 32) (F := (pCmp_ct n r33)) (pCmp_ok n r33) (fun _ _ => True.intro) ftL_nil) [(3, false)] [] [0, 1, 26] [0, 1] (s' := ⟨[(0, .c (.wh 0)), (1, .c (.wh 1)), (26, .c (.s (.b (r33 == 0))))], [], [⟨(.ro false), 47, 1, r18.2.1, .w r18.1⟩, ⟨(.ro false), 47, 1, r18.2.2.2.1, .w r18.2.2.1⟩]⟩) (by kernel_rfl) (allP_cons.2 ⟨g2, (allP_cons.2 ⟨g3, allP_nil⟩)⟩) ?_
        refine W_cond (b := (r33 == 0)) (by kernel_rfl) (fun g12 => ?_) (fun g12 => ?_)
        · replace h := bif_t h g12
          refine W_seq ?_
          refine W_reg hT ftL_nil [] [] [4, 5] [] (s' := ⟨[(4, .c (.nils)), (5, .c (.s (.er 33 .i64 (some 1))))], [], []⟩) (by kernel_rfl) allP_nil ?_
          refine W_co [.nil 4 47 1 (.w [])] [4, 5] [0] (s' := (pInv_R ([], (some 1)))) (by kernel_rfl) (W_ret ?_)
          exact ⟨.inl rfl, by cases h; rfl⟩
        · replace h := bif_f h g12
          refine W_co [] [0, 1] [0, 1] (s' := ⟨[(0, .c (.wh 0)), (1, .c (.wh 1))], [], [⟨(.ro false), 47, 1, r18.2.1, .w r18.1⟩, ⟨(.ro false), 47, 1, r18.2.2.2.1, .w r18.2.2.1⟩]⟩) (by kernel_rfl) (W_skip ?_)
          refine W_seq ?_
          obtain ⟨r40, g4, h⟩ := bind_some' h
          refine W_reg hT (ftL_cons (k := 2) (f := 51) (F := (pdivide_ct n r40)) (pdivide_ok n r40) (fun _ _ => True.intro) ftL_nil) [] [] [1, 8] [1, 3] (s' := ⟨[(1, .c (.wh 0)), (8, .c (.wh 1))], [], [⟨(.ro false), 47, 1, r18.2.2.2.1, .w r18.2.2.1⟩, ⟨(.ro true), 47, 1, r40.2.2.2, .w r40.2.2.1⟩]⟩) (by kernel_rfl) (allP_cons.2 ⟨g4, allP_nil⟩) ?_
          refine W_seq ?_
          refine W_reg hT ftL_nil [] [] [1, 8, 9, 10, 11] [0, 1, 2] (s' := ⟨[(1, .c (.wh 0)), (8, .c (.wh 1)), (9, .c (.wh 0)), (10, .c (.nils)), (11, .c (.wh 2))], [], [⟨(.ro false), 47, 1, r18.2.2.2.1, .w r18.2.2.1⟩, ⟨(.ro true), 47, 1, r40.2.2.2, .w r40.2.2.1⟩, ⟨.row, 47, 1, 1, .w [1]⟩]⟩) (by kernel_rfl) allP_nil ?_
          refine W_join (pInv_j1_P n r) ?_ ?_
          · rintro _ ⟨w9_7, m9_7, w10_7, m10_4, rfl, h⟩
            unfold pInv_j1 at h
            refine W_seq ?_
            refine W_seq ?_
            obtain ⟨r67_1, g5, h⟩ := bind_some' h
            refine W_reg hT (ftL_cons (k := 2) (f := 32) (F := (pCmp_ct n r67_1)) (pCmp_ok n r67_1) (fun _ _ => True.intro) ftL_nil) [] [] [10, 68] [1] (s' := ⟨[(10, .c (.wh 0)), (68, .c (.s (.b (r67_1 != 0))))], [], [⟨(.ro true), 47, 1, m10_4, .w w10_7⟩]⟩) (by kernel_rfl) (allP_cons.2 ⟨g5, allP_nil⟩) ?_
            refine W_cond (b := (r67_1 != 0)) (by kernel_rfl) (fun g7 => ?_) (fun g7 => ?_)
            · replace h := bif_t h g7
              refine W_seq ?_
              refine W_reg hT ftL_nil [] [] [4, 5] [] (s' := ⟨[(4, .c (.nils)), (5, .c (.s (.er 33 .i64 (some 13))))], [], []⟩) (by kernel_rfl) allP_nil ?_
              refine W_co [.nil 4 47 1 (.w [])] [4, 5] [0] (s' := (pInv_R ([], (some 13)))) (by kernel_rfl) (W_ret ?_)
              exact ⟨.inl rfl, by cases h; rfl⟩
            · replace h := bif_f h g7
              refine W_co [] [10] [0] (s' := ⟨[(10, .c (.wh 0))], [], [⟨(.ro true), 47, 1, m10_4, .w w10_7⟩]⟩) (by kernel_rfl) (W_skip ?_)
              refine W_seq ?_
              obtain ⟨g6, h⟩ := gd_some h
              refine W_reg hT (ftL_cons (k := 1) (f := 54) (F := clone_ct) clone_h (fun _ _ => True.intro) ftL_nil) [] [] [4, 5] [1] (s' := ⟨[(4, .c (.wh 0)), (5, .c (.s (.v .nilIface)))], [], [⟨.row, 47, 1, w10_7.length, .w w10_7⟩]⟩) (by kernel_rfl) (allP_cons.2 ⟨g6, allP_nil⟩) ?_
              refine W_co [.er 5 33 .i64] [4, 5] [0] (s' := (pInv_R (w10_7, none))) (by kernel_rfl) (W_ret ?_)
              exact ⟨.inl rfl, by cases h; rfl⟩
          · refine W_block ?_
            refine W_co [.emp 10 47 1 (.w []) true, .vw 11 true, .vw 9 false] [1, 8, 9, 10, 11] [0, 1, 5, 3, 4] (s' := (pInv_l1_E r18 r40.2.2.1 r40.2.2.2 r18.2.2.1 r18.2.2.2.1 [] 0 [1] 1)) (by kernel_rfl) (W_lp ((pInv_l1_P n r18 r)) n (pInv_l1_M h) ?_)
            rintro fu_l1 _ ⟨w8_7, m8_7, w9_9, m9_9, w10_9, m10_5, w11_7, m11_7, rfl, h⟩
            cases fu_l1 with
            | zero => cases h
            | succ fu_l1 =>
              refine ⟨fu_l1, rfl, ?_⟩
              rw [pInv_l1] at h
              refine W_seq ?_
              refine W_seq ?_
              refine W_reg hT ftL_nil [] [] [1, 8, 9, 10, 11, 47] [0, 1, 2, 3, 4] (s' := ⟨[(1, .c (.wh 0)), (8, .c (.wh 1)), (9, .c (.wh 2)), (10, .c (.wh 3)), (11, .c (.wh 4)), (47, .c (.s (.b (decide ((0 : Int) < ((m8_7 : Nat) : Int))))))], [], [⟨(.ro false), 47, 1, r18.2.2.2.1, .w r18.2.2.1⟩, ⟨(.ro true), 47, 1, m8_7, .w w8_7⟩, ⟨(.ro false), 47, 1, m9_9, .w w9_9⟩, ⟨(.ro true), 47, 1, m10_5, .w w10_9⟩, ⟨(.ro true), 47, 1, m11_7, .w w11_7⟩]⟩) (by kernel_rfl) allP_nil ?_
              refine W_cond (b := (decide ((0 : Int) < ((m8_7 : Nat) : Int)))) (by kernel_rfl) (fun g11 => ?_) (fun g11 => ?_)
              · replace h := bif_t h g11
                refine W_co [] [1, 8, 9, 10, 11] [0, 1, 2, 3, 4] (s' := ⟨[(1, .c (.wh 0)), (8, .c (.wh 1)), (9, .c (.wh 2)), (10, .c (.wh 3)), (11, .c (.wh 4))], [], [⟨(.ro false), 47, 1, r18.2.2.2.1, .w r18.2.2.1⟩, ⟨(.ro true), 47, 1, m8_7, .w w8_7⟩, ⟨(.ro false), 47, 1, m9_9, .w w9_9⟩, ⟨(.ro true), 47, 1, m10_5, .w w10_9⟩, ⟨(.ro true), 47, 1, m11_7, .w w11_7⟩]⟩) (by kernel_rfl) (W_skip ?_)
                refine W_block ?_
                refine W_seq ?_
                obtain ⟨r51_8, g8, h⟩ := bind_some' h
                refine W_reg hT (ftL_cons (k := 2) (f := 51) (F := (pdivide_ct n r51_8)) (pdivide_ok n r51_8) (fun _ _ => True.intro) ftL_nil) [] [] [1, 8, 10, 11, 12, 13] [0, 1, 3, 4, 5, 6] (s' := ⟨[(1, .c (.wh 0)), (8, .c (.wh 1)), (10, .c (.wh 2)), (11, .c (.wh 3)), (12, .c (.wh 4)), (13, .c (.wh 5))], [], [⟨(.ro false), 47, 1, r18.2.2.2.1, .w r18.2.2.1⟩, ⟨(.ro true), 47, 1, m8_7, .w w8_7⟩, ⟨(.ro true), 47, 1, m10_5, .w w10_9⟩, ⟨(.ro true), 47, 1, m11_7, .w w11_7⟩, ⟨(.ro true), 47, 1, r51_8.2.1, .w r51_8.1⟩, ⟨(.ro true), 47, 1, r51_8.2.2.2, .w r51_8.2.2.1⟩]⟩) (by kernel_rfl) (allP_cons.2 ⟨g8, allP_nil⟩) ?_
                refine W_seq ?_
                obtain ⟨r58_8, g9, h⟩ := bind_some' h
                obtain ⟨r60_8, g10, h⟩ := bind_some' h
                refine W_reg hT (ftL_cons (k := 4) (f := 53) (F := (prest_ct n r58_8)) (prest_ok n r58_8) (fun _ _ => True.intro) (ftL_cons (k := 6) (f := 52) (F := (pless2_ct n r60_8)) (pless2_ok n r60_8) (fun _ _ => True.intro) ftL_nil)) [] [] [1, 8, 11, 13, 14] [0, 1, 3, 5, 7] (s' := ⟨[(1, .c (.wh 0)), (8, .c (.wh 1)), (11, .c (.wh 2)), (13, .c (.wh 3)), (14, .c (.wh 4))], [], [⟨(.ro false), 47, 1, r18.2.2.2.1, .w r18.2.2.1⟩, ⟨(.ro true), 47, 1, m8_7, .w w8_7⟩, ⟨(.ro true), 47, 1, m11_7, .w w11_7⟩, ⟨(.ro true), 47, 1, r51_8.2.2.2, .w r51_8.2.2.1⟩, ⟨(.ro true), 47, 1, r60_8.2, .w r60_8.1⟩]⟩) (by kernel_rfl) (allP_cons.2 ⟨g9, (allP_cons.2 ⟨g10, allP_nil⟩)⟩) ?_
                refine W_reg hT ftL_nil [] [.vw 9 false] [1, 8, 9, 10, 11] [0, 3, 5, 2, 4] (s' := (pInv_l1_E r18 r51_8.2.2.1 r51_8.2.2.2 w8_7 m8_7 w11_7 m11_7 r60_8.1 r60_8.2)) (by kernel_rfl) allP_nil ?_
                exact pInv_l1_M h
              · replace h := bif_f h g11
                refine W_co [] [9, 10] [2, 3] (s' := (pInv_j1_E w9_9 m9_9 w10_9 m10_5)) (by kernel_rfl) (W_exit ?_)
                exact pInv_j1_M h
  · rintro e s' ⟨he, rfl⟩
    refine ⟨he, fun a' w' hr => ?_⟩
    exact retS_ok tabO_ra hr (rs := [.tmp 4, .tmp 5]) rfl (objs := [0]) (by kernel_rfl)
end Go.Proofs.Ythichmclbiggmaa
end
