import Derived.Test.YthichmclbiggmaaDoorZ2
import Derived.Test.YthichmclbiggmaaDoorProg
set_option linter.unusedVariables false
set_option linter.unusedSimpArgs false
section
namespace Go.Proofs.YthichmclbiggmaaDoor
open Go.RowKit Go.Ch Go.Sx
def tabL_da : List (TypeId × Ti) := [(2, ⟨.int .i64, 1, 8, true, some [.int .i64]⟩),
 (3, ⟨.int .i64, 1, 8, true, some [.int .i64]⟩),
 (5, ⟨.int .u8, 1, 1, true, some [.int .u8]⟩),
 (9, ⟨.str, 1, 16, true, some [.str]⟩),
 (23, ⟨.sl 55, 1, 24, false, some [.nils]⟩),
 (34, ⟨.int .i64, 1, 8, true, some [.int .i64]⟩),
 (55, ⟨.int .u32, 1, 4, true, some [.int .u32]⟩),
 (96, ⟨.int .u64, 1, 8, true, some [.int .u64]⟩)]
def tab_da : Tab := fun t => (tabL_da).lookup t
theorem tabE_da : (tabL_da.map fun p => tiOf Tryd.prog p.1) = tabL_da.map fun p => some p.2 := by kernel_rfl
theorem tabO_da : TabOk Tryd.prog tab_da := tab_of tabE_da
def ptrim_l1 (n : Nat) (a0 : List UInt32) : Nat → Nat → Option (List UInt32 × Nat)
 | 0, _ => none
 | fu_l1 + 1, m0n_2 =>
 bif (decide ((0 : Int) < ((m0n_2 : Nat) : Int))) then
 gd (okI .i64 (((m0n_2 : Nat) : Int) - 1)) <|
 gd (0 ≤ (((m0n_2 : Nat) : Int) - 1)) <|
 gd ((((m0n_2 : Nat) : Int) - 1) < ((m0n_2 : Nat) : Int)) <|
 bif ((a0.getD ((((m0n_2 : Nat) : Int) - 1).toNat) 0) == 0) then
 gd (okI .i64 (((m0n_2 : Nat) : Int) - 1)) <|
 gd (0 ≤ (((m0n_2 : Nat) : Int) - 1)) <|
 gd ((((m0n_2 : Nat) : Int) - 1) ≤ ((m0n_2 : Nat) : Int)) <|
 (ptrim_l1 n a0 fu_l1) ((((m0n_2 : Nat) : Int) - 1).toNat)
 else
 some (a0, m0n_2)
 else
 some (a0, m0n_2)
def ptrim (n : Nat) (a0 : List UInt32) : Option (List UInt32 × Nat) :=
 ptrim_l1 n a0 n a0.length
def pmay (n : Nat) (a0 : List UInt32) (a1 : List UInt32) : Option (List UInt32 × Nat × List UInt32 × Nat × Bool) :=
 (ptrim n a0).bind fun r8 =>
 (ptrim n a1).bind fun r10 =>
 bif (decide (((r8.2 : Nat) : Int) ≤ (64 : Int))) then
  some (((a0.drop 0).take r8.2), r8.2, ((a1.drop 0).take r10.2), r10.2, (decide (((r10.2 : Nat) : Int) ≤ (64 : Int))))
 else
  some (((a0.drop 0).take r8.2), r8.2, ((a1.drop 0).take r10.2), r10.2, false)
def cisNaN (n : Nat) (a0 : Int) : Option (Bool) :=
 some (a0 != a0)
def cCmp (n : Nat) (a0 : Int) (a1 : Int) : Option (Int) :=
 (cisNaN n a0).bind fun r8 =>
 (cisNaN n a1).bind fun r10 =>
 bif r8 then
  bif r10 then
   some 0
  else
   some (-1)
 else
  bif r10 then
   some 1
  else
   bif (decide (a0 < a1)) then
    some (-1)
   else
    bif (decide (a1 < a0)) then
     some 1
    else
     some 0
def cisNaN32 (n : Nat) (a0 : UInt32) : Option (Bool) :=
 some (a0 != a0)
def cCmp32 (n : Nat) (a0 : UInt32) (a1 : UInt32) : Option (Int) :=
 (cisNaN32 n a0).bind fun r8 =>
 (cisNaN32 n a1).bind fun r10 =>
 bif r8 then
  bif r10 then
   some 0
  else
   some (-1)
 else
  bif r10 then
   some 1
  else
   bif (decide (a0 < a1)) then
    some (-1)
   else
    bif (decide (a1 < a0)) then
     some 1
    else
     some 0
def pCmp_l1 (n : Nat) (a0 : List UInt32) (a1 : List UInt32) (r9 : List UInt32 × Nat) (r11 : List UInt32 × Nat) : Nat → Int → Option (Int)
 | 0, _ => none
 | fu_l1 + 1, i6_2 =>
  bif (decide ((0 : Int) ≤ i6_2)) then
   gd (0 ≤ i6_2) <|
   gd (i6_2 < ((r9.2 : Nat) : Int)) <|
   gd (0 ≤ i6_2) <|
   gd (i6_2 < ((r11.2 : Nat) : Int)) <|
   (cCmp32 n (((a0.drop 0).take r9.2).getD i6_2.toNat 0) (((a1.drop 0).take r11.2).getD i6_2.toNat 0)).bind fun r35_3 =>
   bif (r35_3 != 0) then
    some r35_3
   else
    gd (okI .i64 (i6_2 - 1)) <|
    (pCmp_l1 n a0 a1 r9 r11 fu_l1) (i6_2 - 1)
  else
   some 0
def pCmp (n : Nat) (a0 : List UInt32) (a1 : List UInt32) : Option (Int) :=
 (ptrim n a0).bind fun r9 =>
 (ptrim n a1).bind fun r11 =>
 (cCmp n ((r9.2 : Nat) : Int) ((r11.2 : Nat) : Int)).bind fun r16 =>
 bif (r16 != 0) then
  some r16
 else
  gd (okI .i64 (((r9.2 : Nat) : Int) - 1)) <|
  pCmp_l1 n a0 a1 r9 r11 n (((r9.2 : Nat) : Int) - 1)
def pshort_l1 (n : Nat) (a0 : List UInt32) (a1 : UInt32) : Nat → List UInt32 → UInt64 → Int → Option (List UInt32 × Nat × List UInt32 × Nat)
 | 0, _, _, _ => none
 | fu_l1 + 1, w6_1, y7_1, i8_1 =>
  bif (decide ((0 : Int) ≤ i8_1)) then
   gd (0 ≤ (32 : Int)) <|
   gd (0 ≤ i8_1) <|
   gd (i8_1 < ((a0.length : Nat) : Int)) <|
   gd (a1.toUInt64 ≠ 0) <|
   gd (a1.toUInt64 ≠ 0) <|
   gd (0 ≤ i8_1) <|
   gd (i8_1 < ((((a0.length : Nat) : Int).toNat : Nat) : Int)) <|
   gd (okI .i64 (i8_1 - 1)) <|
   (pshort_l1 n a0 a1 fu_l1) (w6_1.set i8_1.toNat ((((shl64 y7_1 32) ||| ((a0.getD i8_1.toNat 0).toUInt64)) / a1.toUInt64).toUInt32)) (((shl64 y7_1 32) ||| ((a0.getD i8_1.toNat 0).toUInt64)) % a1.toUInt64) (i8_1 - 1)
  else
   (ptrim n w6_1).bind fun r40_1 =>
   (ptrim n [y7_1.toUInt32]).bind fun r44_1 =>
   some (((w6_1.drop 0).take r40_1.2), r40_1.2, (([y7_1.toUInt32].drop 0).take r44_1.2), r44_1.2)
def pshort (n : Nat) (a0 : List UInt32) (a1 : UInt32) : Option (List UInt32 × Nat × List UInt32 × Nat) :=
 gd (0 ≤ ((a0.length : Nat) : Int)) <|
 gd (((a0.length : Nat) : Int) = ((a0.length : Nat) : Int)) <|
 gd (rmB (((a0.length : Nat) : Int).toNat) 4) <|
 gd (okI .i64 (((a0.length : Nat) : Int) - 1)) <|
 pshort_l1 n a0 a1 n (List.replicate (((a0.length : Nat) : Int).toNat) 0) 0 (((a0.length : Nat) : Int) - 1)
def blen32_j2 (n : Nat) (x0_3 : UInt32) (i2_4 : Int) : Option (Int) :=
 gd (0 ≤ ((x0_3.toUInt8.toNat : Nat) : Int)) <|
 gd (((x0_3.toUInt8.toNat : Nat) : Int) < ((([0, 1, 2, 2, 3, 3, 3, 3, 4, 4, 4, 4, 4, 4, 4, 4, 5, 5, 5, 5, 5, 5, 5, 5, 5, 5, 5, 5, 5, 5, 5, 5, 6, 6, 6, 6, 6, 6, 6, 6, 6, 6, 6, 6, 6, 6, 6, 6, 6, 6, 6, 6, 6, 6, 6, 6, 6, 6, 6, 6, 6, 6, 6, 6, 7, 7, 7, 7, 7, 7, 7, 7, 7, 7, 7, 7, 7, 7, 7, 7, 7, 7, 7, 7, 7, 7, 7, 7, 7, 7, 7, 7, 7, 7, 7, 7, 7, 7, 7, 7, 7, 7, 7, 7, 7, 7, 7, 7, 7, 7, 7, 7, 7, 7, 7, 7, 7, 7, 7, 7, 7, 7, 7, 7, 7, 7, 7, 7, 8, 8, 8, 8, 8, 8, 8, 8, 8, 8, 8, 8, 8, 8, 8, 8, 8, 8, 8, 8, 8, 8, 8, 8, 8, 8, 8, 8, 8, 8, 8, 8, 8, 8, 8, 8, 8, 8, 8, 8, 8, 8, 8, 8, 8, 8, 8, 8, 8, 8, 8, 8, 8, 8, 8, 8, 8, 8, 8, 8, 8, 8, 8, 8, 8, 8, 8, 8, 8, 8, 8, 8, 8, 8, 8, 8, 8, 8, 8, 8, 8, 8, 8, 8, 8, 8, 8, 8, 8, 8, 8, 8, 8, 8, 8, 8, 8, 8, 8, 8, 8, 8, 8, 8, 8, 8, 8, 8, 8, 8, 8, 8, 8, 8, 8, 8, 8, 8, 8, 8, 8, 8, 8, 8, 8, 8, 8, 8] : List UInt8).length : Nat) : Int)) <|
 gd (okI .i64 (i2_4 + (((([0, 1, 2, 2, 3, 3, 3, 3, 4, 4, 4, 4, 4, 4, 4, 4, 5, 5, 5, 5, 5, 5, 5, 5, 5, 5, 5, 5, 5, 5, 5, 5, 6, 6, 6, 6, 6, 6, 6, 6, 6, 6, 6, 6, 6, 6, 6, 6, 6, 6, 6, 6, 6, 6, 6, 6, 6, 6, 6, 6, 6, 6, 6, 6, 7, 7, 7, 7, 7, 7, 7, 7, 7, 7, 7, 7, 7, 7, 7, 7, 7, 7, 7, 7, 7, 7, 7, 7, 7, 7, 7, 7, 7, 7, 7, 7, 7, 7, 7, 7, 7, 7, 7, 7, 7, 7, 7, 7, 7, 7, 7, 7, 7, 7, 7, 7, 7, 7, 7, 7, 7, 7, 7, 7, 7, 7, 7, 7, 8, 8, 8, 8, 8, 8, 8, 8, 8, 8, 8, 8, 8, 8, 8, 8, 8, 8, 8, 8, 8, 8, 8, 8, 8, 8, 8, 8, 8, 8, 8, 8, 8, 8, 8, 8, 8, 8, 8, 8, 8, 8, 8, 8, 8, 8, 8, 8, 8, 8, 8, 8, 8, 8, 8, 8, 8, 8, 8, 8, 8, 8, 8, 8, 8, 8, 8, 8, 8, 8, 8, 8, 8, 8, 8, 8, 8, 8, 8, 8, 8, 8, 8, 8, 8, 8, 8, 8, 8, 8, 8, 8, 8, 8, 8, 8, 8, 8, 8, 8, 8, 8, 8, 8, 8, 8, 8, 8, 8, 8, 8, 8, 8, 8, 8, 8, 8, 8, 8, 8, 8, 8, 8, 8, 8, 8, 8, 8] : List UInt8).getD (((x0_3.toUInt8.toNat : Nat) : Int).toNat) 0).toNat : Nat) : Int))) <|
 some (i2_4 + (((([0, 1, 2, 2, 3, 3, 3, 3, 4, 4, 4, 4, 4, 4, 4, 4, 5, 5, 5, 5, 5, 5, 5, 5, 5, 5, 5, 5, 5, 5, 5, 5, 6, 6, 6, 6, 6, 6, 6, 6, 6, 6, 6, 6, 6, 6, 6, 6, 6, 6, 6, 6, 6, 6, 6, 6, 6, 6, 6, 6, 6, 6, 6, 6, 7, 7, 7, 7, 7, 7, 7, 7, 7, 7, 7, 7, 7, 7, 7, 7, 7, 7, 7, 7, 7, 7, 7, 7, 7, 7, 7, 7, 7, 7, 7, 7, 7, 7, 7, 7, 7, 7, 7, 7, 7, 7, 7, 7, 7, 7, 7, 7, 7, 7, 7, 7, 7, 7, 7, 7, 7, 7, 7, 7, 7, 7, 7, 7, 8, 8, 8, 8, 8, 8, 8, 8, 8, 8, 8, 8, 8, 8, 8, 8, 8, 8, 8, 8, 8, 8, 8, 8, 8, 8, 8, 8, 8, 8, 8, 8, 8, 8, 8, 8, 8, 8, 8, 8, 8, 8, 8, 8, 8, 8, 8, 8, 8, 8, 8, 8, 8, 8, 8, 8, 8, 8, 8, 8, 8, 8, 8, 8, 8, 8, 8, 8, 8, 8, 8, 8, 8, 8, 8, 8, 8, 8, 8, 8, 8, 8, 8, 8, 8, 8, 8, 8, 8, 8, 8, 8, 8, 8, 8, 8, 8, 8, 8, 8, 8, 8, 8, 8, 8, 8, 8, 8, 8, 8, 8, 8, 8, 8, 8, 8, 8, 8, 8, 8, 8, 8, 8, 8, 8, 8, 8, 8] : List UInt8).getD (((x0_3.toUInt8.toNat : Nat) : Int).toNat) 0).toNat : Nat) : Int))
def blen32_j1 (n : Nat) (x0_2 : UInt32) (i2_3 : Int) : Option (Int) :=
 bif (decide ((256 : UInt32) ≤ x0_2)) then
 gd (0 ≤ (8 : Int)) <|
 gd (okI .i64 (i2_3 + 8)) <|
 blen32_j2 n (shr32 x0_2 8) (i2_3 + 8)
 else
 blen32_j2 n x0_2 i2_3
def blen32 (n : Nat) (a0 : UInt32) : Option (Int) :=
 bif (decide ((65536 : UInt32) ≤ a0)) then
 gd (0 ≤ (16 : Int)) <|
 blen32_j1 n (shr32 a0 16) 16
 else
 blen32_j1 n a0 0
def bclz32 (n : Nat) (a0 : UInt32) : Option (Int) :=
 (blen32 n a0).bind fun r4 =>
 gd (okI .i64 (32 - r4)) <|
 some (32 - r4)
def pshift_l1 (n : Nat) (a0 : List UInt32) (a1 : Int) : Nat → List UInt32 → Int → Option (List UInt32 × Nat)
 | 0, _, _ => none
 | fu_l1 + 1, w5_2, i14_2 =>
 bif (decide (i14_2 < ((a0.length : Nat) : Int))) then
 gd (0 ≤ i14_2) <|
 gd (i14_2 < ((a0.length : Nat) : Int)) <|
 gd (0 ≤ i14_2) <|
 gd (i14_2 < (((((a0.length : Nat) : Int) + 1).toNat : Nat) : Int)) <|
 gd (0 ≤ a1) <|
 gd (0 ≤ i14_2) <|
 gd (i14_2 < (((((a0.length : Nat) : Int) + 1).toNat : Nat) : Int)) <|
 gd (okI .i64 (i14_2 + 1)) <|
 gd (0 ≤ a1) <|
 gd (0 ≤ (32 : Int)) <|
 gd (0 ≤ (i14_2 + 1)) <|
 gd ((i14_2 + 1) < (((((a0.length : Nat) : Int) + 1).toNat : Nat) : Int)) <|
 gd (okI .i64 (i14_2 + 1)) <|
 (pshift_l1 n a0 a1 fu_l1) ((w5_2.set i14_2.toNat ((w5_2.getD i14_2.toNat 0) ||| (shl32 (a0.getD i14_2.toNat 0) a1))).set ((i14_2 + 1).toNat) ((shr64 (shl64 ((a0.getD i14_2.toNat 0).toUInt64) a1) 32).toUInt32)) (i14_2 + 1)
 else
 some (w5_2, (((a0.length : Nat) : Int) + 1).toNat)
def pshift (n : Nat) (a0 : List UInt32) (a1 : Int) : Option (List UInt32 × Nat) :=
 gd (okI .i64 (((a0.length : Nat) : Int) + 1)) <|
 gd (0 ≤ (((a0.length : Nat) : Int) + 1)) <|
 gd ((((a0.length : Nat) : Int) + 1) = (((a0.length : Nat) : Int) + 1)) <|
 gd (rmB ((((a0.length : Nat) : Int) + 1).toNat) 4) <|
 pshift_l1 n a0 a1 n (List.replicate ((((a0.length : Nat) : Int) + 1).toNat) 0) 0
def pdigit_j1 (n : Nat) (y10_7 : UInt64) : Option (UInt64) :=
 some y10_7
def pdigit_l1 (n : Nat) (a0 : List UInt32) (a1 : List UInt32) (a2 : Int) : Nat → UInt64 → UInt64 → Option (UInt64)
 | 0, _, _ => none
 | fu_l1 + 1, y10_8, y11_5 =>
 gd (0 ≤ (32 : Int)) <|
 bif (decide ((0 : UInt64) < (shr64 y10_8 32))) then
 gd (0 ≤ (32 : Int)) <|
 bif (decide ((0 : UInt64) < (shr64 (y11_5 + ((a1.getD ((((a1.length : Nat) : Int) - 1).toNat) 0).toUInt64)) 32))) then
 pdigit_j1 n (y10_8 - (1 : UInt64))
 else
 (pdigit_l1 n a0 a1 a2 fu_l1) (y10_8 - (1 : UInt64)) (y11_5 + ((a1.getD ((((a1.length : Nat) : Int) - 1).toNat) 0).toUInt64))
 else
 gd (okI .i64 (((a1.length : Nat) : Int) - 2)) <|
 gd (0 ≤ (((a1.length : Nat) : Int) - 2)) <|
 gd ((((a1.length : Nat) : Int) - 2) < ((a1.length : Nat) : Int)) <|
 gd (0 ≤ (32 : Int)) <|
 gd (okI .i64 (a2 + ((a1.length : Nat) : Int))) <|
 gd (okI .i64 ((a2 + ((a1.length : Nat) : Int)) - 2)) <|
 gd (0 ≤ ((a2 + ((a1.length : Nat) : Int)) - 2)) <|
 gd (((a2 + ((a1.length : Nat) : Int)) - 2) < ((a0.length : Nat) : Int)) <|
 bif (decide (((shl64 y11_5 32) ||| ((a0.getD (((a2 + ((a1.length : Nat) : Int)) - 2).toNat) 0).toUInt64)) < (y10_8 * ((a1.getD ((((a1.length : Nat) : Int) - 2).toNat) 0).toUInt64)))) then
 gd (0 ≤ (32 : Int)) <|
 bif (decide ((0 : UInt64) < (shr64 (y11_5 + ((a1.getD ((((a1.length : Nat) : Int) - 1).toNat) 0).toUInt64)) 32))) then
 pdigit_j1 n (y10_8 - (1 : UInt64))
 else
 (pdigit_l1 n a0 a1 a2 fu_l1) (y10_8 - (1 : UInt64)) (y11_5 + ((a1.getD ((((a1.length : Nat) : Int) - 1).toNat) 0).toUInt64))
 else
 pdigit_j1 n y10_8
def pdigit (n : Nat) (a0 : List UInt32) (a1 : List UInt32) (a2 : Int) : Option (UInt64) :=
 gd (okI .i64 (((a1.length : Nat) : Int) - 1)) <|
 gd (0 ≤ (((a1.length : Nat) : Int) - 1)) <|
 gd ((((a1.length : Nat) : Int) - 1) < ((a1.length : Nat) : Int)) <|
 gd (okI .i64 (a2 + ((a1.length : Nat) : Int))) <|
 gd (0 ≤ (a2 + ((a1.length : Nat) : Int))) <|
 gd ((a2 + ((a1.length : Nat) : Int)) < ((a0.length : Nat) : Int)) <|
 gd (0 ≤ (32 : Int)) <|
 gd (okI .i64 (a2 + ((a1.length : Nat) : Int))) <|
 gd (okI .i64 ((a2 + ((a1.length : Nat) : Int)) - 1)) <|
 gd (0 ≤ ((a2 + ((a1.length : Nat) : Int)) - 1)) <|
 gd (((a2 + ((a1.length : Nat) : Int)) - 1) < ((a0.length : Nat) : Int)) <|
 gd (((a1.getD ((((a1.length : Nat) : Int) - 1).toNat) 0).toUInt64) ≠ 0) <|
 gd (((a1.getD ((((a1.length : Nat) : Int) - 1).toNat) 0).toUInt64) ≠ 0) <|
 pdigit_l1 n a0 a1 a2 n (((shl64 ((a0.getD ((a2 + ((a1.length : Nat) : Int)).toNat) 0).toUInt64) 32) ||| ((a0.getD (((a2 + ((a1.length : Nat) : Int)) - 1).toNat) 0).toUInt64)) / ((a1.getD ((((a1.length : Nat) : Int) - 1).toNat) 0).toUInt64)) (((shl64 ((a0.getD ((a2 + ((a1.length : Nat) : Int)).toNat) 0).toUInt64) 32) ||| ((a0.getD (((a2 + ((a1.length : Nat) : Int)) - 1).toNat) 0).toUInt64)) % ((a1.getD ((((a1.length : Nat) : Int) - 1).toNat) 0).toUInt64))
def pdivide_j1 (n : Nat) (a0 : List UInt32) (a1 : List UInt32) (r45 : Int) (r48 : List UInt32 × Nat) (r53 : List UInt32 × Nat) (w10_1 : List UInt32) (i11_1 : Int) (k_l1 : (List UInt32) → (List UInt32) → Int → Option (List UInt32 × Nat × List UInt32 × Nat)) (w9_25 : List UInt32) (y12_5 : UInt64) : Option (List UInt32 × Nat × List UInt32 × Nat) :=
 gd (0 ≤ i11_1) <|
 gd (i11_1 < ((((((a0.length : Nat) : Int) - ((a1.length : Nat) : Int)) + 1).toNat : Nat) : Int)) <|
 gd (okI .i64 (i11_1 - 1)) <|
 k_l1 w9_25 (w10_1.set i11_1.toNat y12_5.toUInt32) (i11_1 - 1)
def pdivide_l3 (n : Nat) (a0 : List UInt32) (a1 : List UInt32) (r45 : Int) (r48 : List UInt32 × Nat) (r53 : List UInt32 × Nat) (w10_1 : List UInt32) (i11_1 : Int) (r71_2 : UInt64) (k_l1 : (List UInt32) → (List UInt32) → Int → Option (List UInt32 × Nat × List UInt32 × Nat)) : Nat → List UInt32 → UInt64 → Int → Option (List UInt32 × Nat × List UInt32 × Nat)
 | 0, _, _, _ => none
 | fu_l3 + 1, w9_26, y18_11, i131_11 =>
 bif (decide (i131_11 < ((a1.length : Nat) : Int))) then
 gd (okI .i64 (i131_11 + i11_1)) <|
 gd (0 ≤ (i131_11 + i11_1)) <|
 gd ((i131_11 + i11_1) < ((r53.2 : Nat) : Int)) <|
 gd (0 ≤ i131_11) <|
 gd (i131_11 < ((((a1.length : Nat) : Int).toNat : Nat) : Int)) <|
 gd (okI .i64 (i131_11 + i11_1)) <|
 gd (0 ≤ (32 : Int)) <|
 gd (0 ≤ (i131_11 + i11_1)) <|
 gd ((i131_11 + i11_1) < ((r53.2 : Nat) : Int)) <|
 gd (okI .i64 (i131_11 + 1)) <|
 (pdivide_l3 n a0 a1 r45 r48 r53 w10_1 i11_1 r71_2 k_l1 fu_l3) (w9_26.set ((i131_11 + i11_1).toNat) ((y18_11 + (((w9_26.getD ((i131_11 + i11_1).toNat) 0).toUInt64) + ((((r48.1.drop 0).take (((a1.length : Nat) : Int).toNat)).getD i131_11.toNat 0).toUInt64))).toUInt32)) (shr64 (y18_11 + (((w9_26.getD ((i131_11 + i11_1).toNat) 0).toUInt64) + ((((r48.1.drop 0).take (((a1.length : Nat) : Int).toNat)).getD i131_11.toNat 0).toUInt64))) 32) (i131_11 + 1)
 else
 gd (okI .i64 (i11_1 + ((a1.length : Nat) : Int))) <|
 gd (0 ≤ (i11_1 + ((a1.length : Nat) : Int))) <|
 gd ((i11_1 + ((a1.length : Nat) : Int)) < ((r53.2 : Nat) : Int)) <|
 gd (0 ≤ (i11_1 + ((a1.length : Nat) : Int))) <|
 gd ((i11_1 + ((a1.length : Nat) : Int)) < ((r53.2 : Nat) : Int)) <|
 pdivide_j1 n a0 a1 r45 r48 r53 w10_1 i11_1 k_l1 (w9_26.set ((i11_1 + ((a1.length : Nat) : Int)).toNat) ((w9_26.getD ((i11_1 + ((a1.length : Nat) : Int)).toNat) 0) + y18_11.toUInt32)) (r71_2 - (1 : UInt64))
def pdivide_l2 (n : Nat) (a0 : List UInt32) (a1 : List UInt32) (r45 : Int) (r48 : List UInt32 × Nat) (r53 : List UInt32 × Nat) (w10_1 : List UInt32) (i11_1 : Int) (r71_2 : UInt64) (k_l1 : (List UInt32) → (List UInt32) → Int → Option (List UInt32 × Nat × List UInt32 × Nat)) : Nat → List UInt32 → Int → Int → Option (List UInt32 × Nat × List UInt32 × Nat)
 | 0, _, _, _ => none
 | fu_l2 + 1, w9_23, i13_5, i73_5 =>
 bif (decide (i73_5 < ((a1.length : Nat) : Int))) then
 gd (0 ≤ i73_5) <|
 gd (i73_5 < ((((a1.length : Nat) : Int).toNat : Nat) : Int)) <|
 gd (okI .i64 (i73_5 + i11_1)) <|
 gd (0 ≤ (i73_5 + i11_1)) <|
 gd ((i73_5 + i11_1) < ((r53.2 : Nat) : Int)) <|
 gd (okI .i64 ((((w9_23.getD ((i73_5 + i11_1).toNat) 0).toNat : Nat) : Int) - i13_5)) <|
 gd (okI .i64 (((((w9_23.getD ((i73_5 + i11_1).toNat) 0).toNat : Nat) : Int) - i13_5) - ((((r71_2 * ((((r48.1.drop 0).take (((a1.length : Nat) : Int).toNat)).getD i73_5.toNat 0).toUInt64)).toUInt32).toNat : Nat) : Int))) <|
 gd (okI .i64 (i73_5 + i11_1)) <|
 gd (0 ≤ (32 : Int)) <|
 gd (0 ≤ (32 : Int)) <|
 gd ((32 : Int) ≤ (((IntKind.i64).bits : Nat) : Int)) <|
 gd (okI .i64 ((IntKind.i64.wrap (((shr64 (r71_2 * ((((r48.1.drop 0).take (((a1.length : Nat) : Int).toNat)).getD i73_5.toNat 0).toUInt64)) 32).toNat : Nat) : Int)) - ((((((w9_23.getD ((i73_5 + i11_1).toNat) 0).toNat : Nat) : Int) - i13_5) - ((((r71_2 * ((((r48.1.drop 0).take (((a1.length : Nat) : Int).toNat)).getD i73_5.toNat 0).toUInt64)).toUInt32).toNat : Nat) : Int)) / 2 ^ 32))) <|
 gd (0 ≤ (i73_5 + i11_1)) <|
 gd ((i73_5 + i11_1) < ((r53.2 : Nat) : Int)) <|
 gd (okI .i64 (i73_5 + 1)) <|
 (pdivide_l2 n a0 a1 r45 r48 r53 w10_1 i11_1 r71_2 k_l1 fu_l2) (w9_23.set ((i73_5 + i11_1).toNat) (UInt32.ofInt (((((w9_23.getD ((i73_5 + i11_1).toNat) 0).toNat : Nat) : Int) - i13_5) - ((((r71_2 * ((((r48.1.drop 0).take (((a1.length : Nat) : Int).toNat)).getD i73_5.toNat 0).toUInt64)).toUInt32).toNat : Nat) : Int)))) ((IntKind.i64.wrap (((shr64 (r71_2 * ((((r48.1.drop 0).take (((a1.length : Nat) : Int).toNat)).getD i73_5.toNat 0).toUInt64)) 32).toNat : Nat) : Int)) - ((((((w9_23.getD ((i73_5 + i11_1).toNat) 0).toNat : Nat) : Int) - i13_5) - ((((r71_2 * ((((r48.1.drop 0).take (((a1.length : Nat) : Int).toNat)).getD i73_5.toNat 0).toUInt64)).toUInt32).toNat : Nat) : Int)) / 2 ^ 32)) (i73_5 + 1)
 else
 gd (okI .i64 (i11_1 + ((a1.length : Nat) : Int))) <|
 gd (0 ≤ (i11_1 + ((a1.length : Nat) : Int))) <|
 gd ((i11_1 + ((a1.length : Nat) : Int)) < ((r53.2 : Nat) : Int)) <|
 gd (okI .i64 ((((w9_23.getD ((i11_1 + ((a1.length : Nat) : Int)).toNat) 0).toNat : Nat) : Int) - i13_5)) <|
 gd (okI .i64 (i11_1 + ((a1.length : Nat) : Int))) <|
 gd (0 ≤ (i11_1 + ((a1.length : Nat) : Int))) <|
 gd ((i11_1 + ((a1.length : Nat) : Int)) < ((r53.2 : Nat) : Int)) <|
 bif (decide (((((w9_23.getD ((i11_1 + ((a1.length : Nat) : Int)).toNat) 0).toNat : Nat) : Int) - i13_5) < (0 : Int))) then
 pdivide_l3 n a0 a1 r45 r48 r53 w10_1 i11_1 r71_2 k_l1 n (w9_23.set ((i11_1 + ((a1.length : Nat) : Int)).toNat) (UInt32.ofInt ((((w9_23.getD ((i11_1 + ((a1.length : Nat) : Int)).toNat) 0).toNat : Nat) : Int) - i13_5))) 0 0
 else
 pdivide_j1 n a0 a1 r45 r48 r53 w10_1 i11_1 k_l1 (w9_23.set ((i11_1 + ((a1.length : Nat) : Int)).toNat) (UInt32.ofInt ((((w9_23.getD ((i11_1 + ((a1.length : Nat) : Int)).toNat) 0).toNat : Nat) : Int) - i13_5))) r71_2
def pdivide_l4 (n : Nat) (a0 : List UInt32) (a1 : List UInt32) (r45 : Int) (r53 : List UInt32 × Nat) (w10_1 : List UInt32) : Nat → List UInt32 → Int → Option (List UInt32 × Nat × List UInt32 × Nat)
 | 0, _, _ => none
 | fu_l4 + 1, w9_27, i175_1 =>
  bif (decide (i175_1 < ((a1.length : Nat) : Int))) then
   gd (0 ≤ i175_1) <|
   gd (i175_1 < ((r53.2 : Nat) : Int)) <|
   gd (0 ≤ r45) <|
   gd (okI .i64 (i175_1 + 1)) <|
   gd (0 ≤ (i175_1 + 1)) <|
   gd ((i175_1 + 1) < ((r53.2 : Nat) : Int)) <|
   gd (okI .i64 (32 - r45)) <|
   gd (0 ≤ (32 - r45)) <|
   gd (0 ≤ i175_1) <|
   gd (i175_1 < ((r53.2 : Nat) : Int)) <|
   gd (okI .i64 (i175_1 + 1)) <|
   (pdivide_l4 n a0 a1 r45 r53 w10_1 fu_l4) (w9_27.set i175_1.toNat ((shr32 (w9_27.getD i175_1.toNat 0) r45) ||| ((shl64 ((w9_27.getD ((i175_1 + 1).toNat) 0).toUInt64) (32 - r45)).toUInt32))) (i175_1 + 1)
  else
   (ptrim n w10_1).bind fun r200_1 =>
   gd (0 ≤ ((a1.length : Nat) : Int)) <|
   gd (((a1.length : Nat) : Int) ≤ ((r53.2 : Nat) : Int)) <|
   (ptrim n ((w9_27.drop 0).take (((a1.length : Nat) : Int).toNat))).bind fun r204_1 =>
   some (((w10_1.drop 0).take r200_1.2), r200_1.2, ((w9_27.drop 0).take r204_1.2), r204_1.2)
def pdivide_l1 (n : Nat) (a0 : List UInt32) (a1 : List UInt32) (r45 : Int) (r48 : List UInt32 × Nat) (r53 : List UInt32 × Nat) : Nat → List UInt32 → List UInt32 → Int → Option (List UInt32 × Nat × List UInt32 × Nat)
 | 0, _, _, _ => none
 | fu_l1 + 1, w9_18, w10_1, i11_1 =>
  bif (decide ((0 : Int) ≤ i11_1)) then
   (pdigit n w9_18 ((r48.1.drop 0).take (((a1.length : Nat) : Int).toNat)) i11_1).bind fun r71_2 =>
   pdivide_l2 n a0 a1 r45 r48 r53 w10_1 i11_1 r71_2 (pdivide_l1 n a0 a1 r45 r48 r53 fu_l1) n w9_18 0 0
  else
   pdivide_l4 n a0 a1 r45 r53 w10_1 n w9_18 0
def pdivide (n : Nat) (a0 : List UInt32) (a1 : List UInt32) : Option (List UInt32 × Nat × List UInt32 × Nat) :=
 (pCmp n a0 a1).bind fun r26 =>
 bif (decide (r26 < (0 : Int))) then
  gd ((a0).length ≤ 1000000000000) <|
  some ([], 0, a0, a0.length)
 else
  bif (((a1.length : Nat) : Int) == 1) then
   gd (0 ≤ (0 : Int)) <|
   gd ((0 : Int) < ((a1.length : Nat) : Int)) <|
   (pshort n a0 (a1.getD 0 0)).bind fun r37 =>
   some (r37.1, r37.2.1, r37.2.2.1, r37.2.2.2)
  else
   gd (okI .i64 (((a1.length : Nat) : Int) - 1)) <|
   gd (0 ≤ (((a1.length : Nat) : Int) - 1)) <|
   gd ((((a1.length : Nat) : Int) - 1) < ((a1.length : Nat) : Int)) <|
   (bclz32 n (a1.getD ((((a1.length : Nat) : Int) - 1).toNat) 0)).bind fun r45 =>
   (pshift n a1 r45).bind fun r48 =>
   gd (0 ≤ ((a1.length : Nat) : Int)) <|
   gd (((a1.length : Nat) : Int) ≤ ((r48.2 : Nat) : Int)) <|
   (pshift n a0 r45).bind fun r53 =>
   gd (okI .i64 (((a0.length : Nat) : Int) - ((a1.length : Nat) : Int))) <|
   gd (okI .i64 ((((a0.length : Nat) : Int) - ((a1.length : Nat) : Int)) + 1)) <|
   gd (0 ≤ ((((a0.length : Nat) : Int) - ((a1.length : Nat) : Int)) + 1)) <|
   gd (((((a0.length : Nat) : Int) - ((a1.length : Nat) : Int)) + 1) = ((((a0.length : Nat) : Int) - ((a1.length : Nat) : Int)) + 1)) <|
   gd (rmB (((((a0.length : Nat) : Int) - ((a1.length : Nat) : Int)) + 1).toNat) 4) <|
   gd (okI .i64 (((a0.length : Nat) : Int) - ((a1.length : Nat) : Int))) <|
   pdivide_l1 n a0 a1 r45 r48 r53 n r53.1 (List.replicate (((((a0.length : Nat) : Int) - ((a1.length : Nat) : Int)) + 1).toNat) 0) (((a0.length : Nat) : Int) - ((a1.length : Nat) : Int))
def ptimes_l2 (n : Nat) (a0 : List UInt32) (a1 : List UInt32) (i19_2 : Int) (k_l1 : (List UInt32) → Int → Option (List UInt32 × Nat)) : Nat → List UInt32 → UInt64 → Int → Option (List UInt32 × Nat)
 | 0, _, _, _ => none
 | fu_l2 + 1, w5_11, y8_8, i26_8 =>
 bif (decide (i26_8 < ((a1.length : Nat) : Int))) then
 gd (0 ≤ i26_8) <|
 gd (i26_8 < ((a1.length : Nat) : Int)) <|
 gd (okI .i64 (i19_2 + i26_8)) <|
 gd (0 ≤ (i19_2 + i26_8)) <|
 gd ((i19_2 + i26_8) < (((((a0.length : Nat) : Int) + ((a1.length : Nat) : Int)).toNat : Nat) : Int)) <|
 gd (okI .i64 (i19_2 + i26_8)) <|
 gd (0 ≤ (32 : Int)) <|
 gd (0 ≤ (i19_2 + i26_8)) <|
 gd ((i19_2 + i26_8) < (((((a0.length : Nat) : Int) + ((a1.length : Nat) : Int)).toNat : Nat) : Int)) <|
 gd (okI .i64 (i26_8 + 1)) <|
 (ptimes_l2 n a0 a1 i19_2 k_l1 fu_l2) (w5_11.set ((i19_2 + i26_8).toNat) ((y8_8 + ((((a0.getD i19_2.toNat 0).toUInt64) * ((a1.getD i26_8.toNat 0).toUInt64)) + ((w5_11.getD ((i19_2 + i26_8).toNat) 0).toUInt64))).toUInt32)) (shr64 (y8_8 + ((((a0.getD i19_2.toNat 0).toUInt64) * ((a1.getD i26_8.toNat 0).toUInt64)) + ((w5_11.getD ((i19_2 + i26_8).toNat) 0).toUInt64))) 32) (i26_8 + 1)
 else
 gd (okI .i64 (i19_2 + ((a1.length : Nat) : Int))) <|
 gd (0 ≤ (i19_2 + ((a1.length : Nat) : Int))) <|
 gd ((i19_2 + ((a1.length : Nat) : Int)) < (((((a0.length : Nat) : Int) + ((a1.length : Nat) : Int)).toNat : Nat) : Int)) <|
 gd (okI .i64 (i19_2 + 1)) <|
 k_l1 (w5_11.set ((i19_2 + ((a1.length : Nat) : Int)).toNat) y8_8.toUInt32) (i19_2 + 1)
def ptimes_l1 (n : Nat) (a0 : List UInt32) (a1 : List UInt32) : Nat → List UInt32 → Int → Option (List UInt32 × Nat)
 | 0, _, _ => none
 | fu_l1 + 1, w5_9, i19_2 =>
  bif (decide (i19_2 < ((a0.length : Nat) : Int))) then
   gd (0 ≤ i19_2) <|
   gd (i19_2 < ((a0.length : Nat) : Int)) <|
   ptimes_l2 n a0 a1 i19_2 (ptimes_l1 n a0 a1 fu_l1) n w5_9 0 0
  else
   (ptrim n w5_9).bind fun r66_2 =>
   some (((w5_9.drop 0).take r66_2.2), r66_2.2)
def ptimes (n : Nat) (a0 : List UInt32) (a1 : List UInt32) : Option (List UInt32 × Nat) :=
 gd (okI .i64 (((a0.length : Nat) : Int) + ((a1.length : Nat) : Int))) <|
 gd (0 ≤ (((a0.length : Nat) : Int) + ((a1.length : Nat) : Int))) <|
 gd ((((a0.length : Nat) : Int) + ((a1.length : Nat) : Int)) = (((a0.length : Nat) : Int) + ((a1.length : Nat) : Int))) <|
 gd (rmB ((((a0.length : Nat) : Int) + ((a1.length : Nat) : Int)).toNat) 4) <|
 ptimes_l1 n a0 a1 n (List.replicate ((((a0.length : Nat) : Int) + ((a1.length : Nat) : Int)).toNat) 0) 0
def prest (n : Nat) (a0 : List UInt32) (a1 : List UInt32) (a2 : List UInt32) : Option (List UInt32 × Nat) :=
 (ptimes n a0 a1).bind fun r12 =>
 (pdivide n r12.1 a2).bind fun r14 =>
 some (r14.2.2.1, r14.2.2.2)
def pExp_j1 (n : Nat) (r17 : List UInt32 × Nat × List UInt32 × Nat × Bool) (r23 : List UInt32 × Nat × List UInt32 × Nat × Bool) (i13_1 : Int) (k_l1 : (List UInt32) → Nat → Int → Option (List UInt32 × Option Int)) (w12_7 : List UInt32) (m12_7 : Nat) : Option (List UInt32 × Option Int) :=
 gd (okI .i64 (i13_1 - 1)) <|
 k_l1 w12_7 m12_7 (i13_1 - 1)
def pExp_l1 (n : Nat) (r17 : List UInt32 × Nat × List UInt32 × Nat × Bool) (r23 : List UInt32 × Nat × List UInt32 × Nat × Bool) : Nat → List UInt32 → Nat → Int → Option (List UInt32 × Option Int)
 | 0, _, _, _ => none
 | fu_l1 + 1, w12_5, m12_5, i13_1 =>
  bif (decide ((0 : Int) ≤ i13_1)) then
   (prest n w12_5 w12_5 r23.1).bind fun r57_2 =>
   gd ((32 : Int) ≠ 0) <|
   gd (okI .i64 (Int.tdiv i13_1 32)) <|
   gd (0 ≤ (Int.tdiv i13_1 32)) <|
   gd ((Int.tdiv i13_1 32) < ((r17.2.2.2.1 : Nat) : Int)) <|
   gd ((32 : Int) ≠ 0) <|
   gd (0 ≤ (Int.tmod i13_1 32)) <|
   bif (((shr32 (r17.2.2.1.getD ((Int.tdiv i13_1 32).toNat) 0) (Int.tmod i13_1 32)) &&& (1 : UInt32)) == 1) then
    (prest n r57_2.1 r17.1 r23.1).bind fun r71_2 =>
    pExp_j1 n r17 r23 i13_1 (pExp_l1 n r17 r23 fu_l1) r71_2.1 r71_2.2
   else
    pExp_j1 n r17 r23 i13_1 (pExp_l1 n r17 r23 fu_l1) r57_2.1 r57_2.2
  else
   gd ((w12_5).length ≤ 1000000000000) <|
   some (w12_5, none)
def pExp (n : Nat) (a0 : List UInt32) (a1 : List UInt32) (a2 : List UInt32) : Option (List UInt32 × Option Int) :=
 (pmay n a0 a1).bind fun r17 =>
 (pmay n a2 []).bind fun r23 =>
 bif (!r17.2.2.2.2) then
  some ([], (some 4))
 else
  bif (!r23.2.2.2.2) then
   some ([], (some 4))
  else
   bif (((r23.2.1 : Nat) : Int) == 0) then
    some ([], (some 1))
   else
    (pdivide n [1] r23.1).bind fun r43 =>
    gd (okI .i64 (32 * ((r17.2.2.2.1 : Nat) : Int))) <|
    gd (okI .i64 ((32 * ((r17.2.2.2.1 : Nat) : Int)) - 1)) <|
    pExp_l1 n r17 r23 n r43.2.2.1 r43.2.2.2 ((32 * ((r17.2.2.2.1 : Nat) : Int)) - 1)
def pat (n : Nat) (a0 : List UInt32) (a1 : Int) : Option (UInt64) :=
 bif (decide (a1 < ((a0.length : Nat) : Int))) then
 gd (0 ≤ a1) <|
 gd (a1 < ((a0.length : Nat) : Int)) <|
 some ((a0.getD a1.toNat 0).toUInt64)
 else
 some 0
def pless_l1 (n : Nat) (a0 : List UInt32) (a1 : List UInt32) : Nat → List UInt32 → UInt64 → Int → Option (List UInt32 × Nat)
 | 0, _, _, _ => none
 | fu_l1 + 1, w5_2, y6_2, i14_2 =>
  bif (decide (i14_2 < ((((a0.length : Nat) : Int).toNat : Nat) : Int))) then
   (pat n a0 i14_2).bind fun r19_3 =>
   (pat n a1 i14_2).bind fun r22_3 =>
   gd (0 ≤ (63 : Int)) <|
   gd (0 ≤ i14_2) <|
   gd (i14_2 < ((((a0.length : Nat) : Int).toNat : Nat) : Int)) <|
   gd (okI .i64 (i14_2 + 1)) <|
   (pless_l1 n a0 a1 fu_l1) (w5_2.set i14_2.toNat (((r19_3 - r22_3) - y6_2).toUInt32)) (shr64 ((r19_3 - r22_3) - y6_2) 63) (i14_2 + 1)
  else
   (ptrim n w5_2).bind fun r35_2 =>
   some (((w5_2.drop 0).take r35_2.2), r35_2.2)
def pless (n : Nat) (a0 : List UInt32) (a1 : List UInt32) : Option (List UInt32 × Nat) :=
 gd (0 ≤ ((a0.length : Nat) : Int)) <|
 gd (((a0.length : Nat) : Int) = ((a0.length : Nat) : Int)) <|
 gd (rmB (((a0.length : Nat) : Int).toNat) 4) <|
 pless_l1 n a0 a1 n (List.replicate (((a0.length : Nat) : Int).toNat) 0) 0 0
def pless2 (n : Nat) (a0 : List UInt32) (a1 : List UInt32) (a2 : List UInt32) : Option (List UInt32 × Nat) :=
 (pCmp n a0 a1).bind fun r9 =>
 bif (decide ((0 : Int) ≤ r9)) then
  (pless n a0 a1).bind fun r13 =>
  some (r13.1, r13.2)
 else
  (pless n a1 a0).bind fun r17 =>
  (pless n a2 r17.1).bind fun r18 =>
  some (r18.1, r18.2)
def pInv_j1 (n : Nat) (w9_7 : List UInt32) (m9_7 : Nat) (w10_7 : List UInt32) (m10_4 : Nat) : Option (List UInt32 × Option Int) :=
 (pCmp n w9_7 [1]).bind fun r67_1 =>
 bif (r67_1 != 0) then
  some ([], (some 13))
 else
  gd ((w10_7).length ≤ 1000000000000) <|
  some (w10_7, none)
def pInv_l1 (n : Nat) (r18 : List UInt32 × Nat × List UInt32 × Nat × Bool) : Nat → List UInt32 → Nat → List UInt32 → Nat → List UInt32 → Nat → List UInt32 → Nat → Option (List UInt32 × Option Int)
 | 0, _, _, _, _, _, _, _, _ => none
 | fu_l1 + 1, w8_7, m8_7, w9_9, m9_9, w10_9, m10_5, w11_7, m11_7 =>
  bif (decide ((0 : Int) < ((m8_7 : Nat) : Int))) then
   (pdivide n w9_9 w8_7).bind fun r51_8 =>
   (prest n r51_8.1 w11_7 r18.2.2.1).bind fun r58_8 =>
   (pless2 n w10_9 r58_8.1 r18.2.2.1).bind fun r60_8 =>
   (pInv_l1 n r18 fu_l1) r51_8.2.2.1 r51_8.2.2.2 w8_7 m8_7 w11_7 m11_7 r60_8.1 r60_8.2
  else
   pInv_j1 n w9_9 m9_9 w10_9 m10_5
def pInv (n : Nat) (a0 : List UInt32) (a1 : List UInt32) : Option (List UInt32 × Option Int) :=
 (pmay n a0 a1).bind fun r18 =>
 bif (!r18.2.2.2.2) then
  some ([], (some 4))
 else
  bif (((r18.2.2.2.1 : Nat) : Int) == 0) then
   some ([], (some 1))
  else
   (pCmp n r18.2.2.1 [1]).bind fun r33 =>
   bif (r33 == 0) then
    some ([], (some 1))
   else
    (pdivide n r18.1 r18.2.2.1).bind fun r40 =>
    pInv_l1 n r18 n r40.2.2.1 r40.2.2.2 r18.2.2.1 r18.2.2.2.1 [] 0 [1] 1
def ptrim_l1_E (a0 : List UInt32) (m0n_2 : Nat) : S := ⟨[(0, .c (.sl 0 0 m0n_2))], [(1000000, kH 0)], [ow 55 a0]⟩
abbrev ptrim_l1_P (n : Nat) (a0 : List UInt32) (r : List UInt32 × Nat) (fu : Nat) : S → Prop := fun s => ∃ (m0n_2 : Nat), s = ptrim_l1_E a0 m0n_2 ∧ ptrim_l1 n a0 fu m0n_2 = some r
def ptrim_R (r : List UInt32 × Nat) : S := ⟨[(2, .c (.sl 0 0 r.2))], [(1000000, kH 0)], [ow 55 r.1]⟩
def ptrim_ct (n : Nat) (r : List UInt32 × Nat) : Ct := ctc aW fun x0 l0 => ctl (fun H => subC 0 r.2 x0) fun ys => ct0 fun H => ([ptrim n l0 = some r], ys, [])
theorem ptrim_ok (n : Nat) (r : List UInt32 × Nat) : FnOk Tryd.prog Tr 62 (ptrim_ct n r) := by
 refine ⟨fun args H g av objs hF hg ρ w vals hG hp ha => ?_, _, Tryd.func62, by kernel_rfl, by kernel_rfl⟩
 obtain ⟨x0, _, l0, rfl, e0, hF⟩ := ctc_inv hF
 obtain ⟨ys, e1, hF⟩ := ctl_inv hF
 obtain ⟨rfl, rfl, rfl, rfl⟩ := ct0_inv hF
 dsimp only
 obtain ⟨v0, vals, rfl, k0, ha⟩ := F2.inv ha
 obtain rfl := F2.inv0 ha
 have h : ptrim n l0 = some r := hg
 obtain ⟨p0, s0, o0⟩ := aW_ok hp e0 (k0) 55
 have kk := k0
 have zz := aW_sz hp e0
 have hR0 := rel0 (gv := (fun j => ([v0] : List Value).getD j undef)) (n := 21) (w := w) (args := [kH 0]) (H := [⟨.ro false, 55, 1, l0.length, .w l0⟩]) (gl := [(1000000, .c (.wh 0))]) (hpL (ps := [p0]) (F2.cons o0 F2.nil)) (allRo_ok rfl) (F2.cons s0 F2.nil) (GlR.cons 0 s0 GlR.nil) (by simp)
 clear ha hp hg hF k0 e0
 refine calls_W Tryd.func62 rfl rfl hR0 (Q := fun e s => (e = .ret ∨ e = .normal) ∧ s = ptrim_R r) ?_ ?_
 ·clear hR0
  unfold ptrim at h
  have hT := tabO_da
  refine Vrs hT [0] ⟨[(0, kH 0)], [(1000000, kH 0)], [ow 55 l0]⟩ ?_
  refine W_seq ?_
  refine W_block ?_
  refine Vc [.sb 0] [0] (ptrim_l1_E l0 l0.length) (W_lp ((ptrim_l1_P n l0 r)) n ⟨_, rfl, h⟩ ?_)
  rintro fu_l1 _ ⟨m0n_2, rfl, h⟩
  cases fu_l1 with
  | zero => cases h
  | succ fu_l1 =>
   refine ⟨fu_l1, rfl, ?_⟩
   rw [ptrim_l1] at h
   refine W_seq ?_
   refine W_seq ?_
   rcases Bool.eq_false_or_eq_true (decide ((0 : Int) < ((m0n_2 : Nat) : Int))) with g1 | g1
   ·replace h := bif_t h g1
    obtain ⟨g2, g3, g4, h⟩ := gd3 h
    refine Vg hT fN [(3, true)] [] [0] ⟨[(0, .c (.sl 0 0 m0n_2)), (14, kB ((l0.getD ((((m0n_2 : Nat) : Int) - 1).toNat) 0) == 0))], [(1000000, kH 0)], [ow 55 l0]⟩ (aP g1 (aP g2 (aP g3 (aP g4 aN)))) ?_
    refine Vi (((l0.getD ((((m0n_2 : Nat) : Int) - 1).toNat) 0) == 0)) (fun g8 => ?_) (fun g8 => ?_)
    ·replace h := bif_t h g8
     refine W_skip ?_
     refine W_block ?_
     obtain ⟨g5, g6, g7, h⟩ := gd3 h
     refine Vg hT fN [] [] [0] (ptrim_l1_E l0 ((((m0n_2 : Nat) : Int) - 1).toNat)) (aP g5 (aP g6 (aP g7 aN))) ?_
     exact ⟨_, rfl, h⟩
    ·replace h := bif_f h g8
     refine Vc [] [0] ⟨[(0, .c (.sl 0 0 m0n_2))], [(1000000, kH 0)], [ow 55 l0]⟩ (W_exit ?_)
     refine Vrs hT [0] ⟨[(2, .c (.sl 0 0 m0n_2))], [(1000000, kH 0)], [ow 55 l0]⟩ ?_
     refine Vc [] [0] (ptrim_R (l0, m0n_2)) (W_ret ?_)
     exact ⟨.inl rfl, by cases h; rfl⟩
   ·replace h := bif_f h g1
    refine Vg hT fN [(3, false)] [] [0] ⟨[(0, .c (.sl 0 0 m0n_2)), (14, kB false)], [(1000000, kH 0)], [ow 55 l0]⟩ (aP g1 aN) ?_
    refine Vi (false) (fun hb => by cases hb) (fun _ => ?_)
    refine Vc [] [0] ⟨[(0, .c (.sl 0 0 m0n_2))], [(1000000, kH 0)], [ow 55 l0]⟩ (W_exit ?_)
    refine Vrs hT [0] ⟨[(2, .c (.sl 0 0 m0n_2))], [(1000000, kH 0)], [ow 55 l0]⟩ ?_
    refine Vc [] [0] (ptrim_R (l0, m0n_2)) (W_ret ?_)
    exact ⟨.inl rfl, by cases h; rfl⟩
 ·rintro e s' ⟨he, rfl⟩
  refine ⟨he, fun a' w' hr => ?_⟩
  exact retB_ok (q := 0) hr rfl rfl rfl (by kernel_rfl) kk zz e1
def pmay_R (r : List UInt32 × Nat × List UInt32 × Nat × Bool) : S := ⟨[(4, kH 0), (5, kH 1), (6, kB r.2.2.2.2)], [], [⟨(.ro false), 55, 1, r.2.1, .w r.1⟩, ⟨(.ro false), 55, 1, r.2.2.2.1, .w r.2.2.1⟩]⟩
def pmay_ct (n : Nat) (r : List UInt32 × Nat × List UInt32 × Nat × Bool) : Ct := ctc (rW 55).rd fun _ l0 => ctc (rW 55).rd fun _ l1 => ct0 fun H => ([pmay n l0 l1 = some r], shA H.length (.t [.c (.wh 0), .c (.wh 1), .c (.s (.b r.2.2.2.2))]), shH H.length [⟨(.ro false), 55, 1, r.2.1, .w r.1⟩, ⟨(.ro false), 55, 1, r.2.2.2.1, .w r.2.2.1⟩])
theorem pmay_ok (n : Nat) (r : List UInt32 × Nat × List UInt32 × Nat × Bool) : FnOk Tryd.prog Tr 65 (pmay_ct n r) := by
 refine fnok Tryd.func65 ?_
 refine HO_c (rW 55) fun l0 _ => HO_c (rW 55) fun l1 _ => HO_0 tabO_da (pmay_R r) [.tmp 4, .tmp 5, .tmp 6] [0, 1] 21 Tryd.func65 fun w hG h => ?_
 unfold pmay at h
 have hT := tabO_da
 refine Vrs hT [0, 1] ⟨[(0, kH 0), (1, kH 1)], [], [ow 55 l0, ow 55 l1]⟩ ?_
 obtain ⟨r8, g1, h⟩ := bind_some' h
 obtain ⟨r10, g2, h⟩ := bind_some' h
 refine Vgs hT (fT 1 (ptrim_ok n r8) (fT 3 (ptrim_ok n r10) fN)) [] [] [0, 1] ⟨[(0, .c (.sl 0 0 r8.2)), (1, .c (.sl 1 0 r10.2))], [], [ow 55 l0, ow 55 l1]⟩ (aP g1 (aP g2 aN)) ?_
 refine W_seq ?_
 rcases Bool.eq_false_or_eq_true (decide (((r8.2 : Nat) : Int) ≤ (64 : Int))) with g3 | g3
 ·replace h := bif_t h g3
  refine Vg hT fN [(5, true)] [] [0, 1] ⟨[(4, .c (.sl 0 0 r8.2)), (5, .c (.sl 1 0 r10.2)), (6, kB (decide (((r10.2 : Nat) : Int) ≤ (64 : Int))))], [], [ow 55 l0, ow 55 l1]⟩ (aP g3 aN) ?_
  refine Vc [.vw 4 false, .vw 5 false] [2, 3] (pmay_R (((l0.drop 0).take r8.2), r8.2, ((l1.drop 0).take r10.2), r10.2, (decide (((r10.2 : Nat) : Int) ≤ (64 : Int))))) (W_ret ?_)
  exact ⟨.inl rfl, by cases h; rfl⟩
 ·replace h := bif_f h g3
  refine Vg hT fN [(5, false)] [] [0, 1] ⟨[(4, .c (.sl 0 0 r8.2)), (5, .c (.sl 1 0 r10.2)), (6, kB false)], [], [ow 55 l0, ow 55 l1]⟩ (aP g3 aN) ?_
  refine Vc [.vw 4 false, .vw 5 false] [2, 3] (pmay_R (((l0.drop 0).take r8.2), r8.2, ((l1.drop 0).take r10.2), r10.2, false)) (W_ret ?_)
  exact ⟨.inl rfl, by cases h; rfl⟩
def cisNaN_R (r : Bool) : S := ⟨[(2, kB r)], [], []⟩
def cisNaN_ct (n : Nat) (r : Bool) : Ct := ctc rI.rd fun _ l0 => ct0 fun H => ([cisNaN n l0 = some r], shA H.length (kB r), shH H.length [])
theorem cisNaN_ok (n : Nat) (r : Bool) : FnOk Tryd.prog Tr 83 (cisNaN_ct n r) := by
 refine fnok Tryd.func83 ?_
 refine HO_c rI fun l0 _ => HO_0 tabO_da (cisNaN_R r) [.tmp 2] [] 6 Tryd.func83 fun w hG h => ?_
 unfold cisNaN at h
 have hT := tabO_da
 refine Vrs hT [] ⟨[(0, kI l0)], [], []⟩ ?_
 refine Vrs hT [] ⟨[(2, kB (l0 != l0))], [], []⟩ ?_
 refine Vc [] [] (cisNaN_R (l0 != l0)) (W_ret ?_)
 exact ⟨.inl rfl, by cases h; rfl⟩
def cCmp_R (r : Int) : S := ⟨[(4, kI r)], [], []⟩
def cCmp_ct (n : Nat) (r : Int) : Ct := ctc rI.rd fun _ l0 => ctc rI.rd fun _ l1 => ct0 fun H => ([cCmp n l0 l1 = some r], shA H.length (kI r), shH H.length [])
theorem cCmp_ok (n : Nat) (r : Int) : FnOk Tryd.prog Tr 63 (cCmp_ct n r) := by
 refine fnok Tryd.func63 ?_
 refine HO_c rI fun l0 _ => HO_c rI fun l1 _ => HO_0 tabO_da (cCmp_R r) [.tmp 4] [] 20 Tryd.func63 fun w hG h => ?_
 unfold cCmp at h
 have hT := tabO_da
 refine Vrs hT [] ⟨[(0, kI l0), (1, kI l1)], [], []⟩ ?_
 obtain ⟨r8, g1, h⟩ := bind_some' h
 refine Vgs hT (fT 1 (cisNaN_ok n r8) fN) [] [] [] ⟨[(0, kI l0), (1, kI l1), (5, kB r8)], [], []⟩ (aP g1 aN) ?_
 obtain ⟨r10, g2, h⟩ := bind_some' h
 refine Vgs hT (fT 1 (cisNaN_ok n r10) fN) [] [] [] ⟨[(0, kI l0), (1, kI l1), (5, kB r8), (6, kB r10)], [], []⟩ (aP g2 aN) ?_
 refine W_seq ?_
 refine Vrs hT [] ⟨[(0, kI l0), (1, kI l1), (6, kB r10), (11, kB r8)], [], []⟩ ?_
 refine Vi (r8) (fun g7 => ?_) (fun g7 => ?_)
 ·replace h := bif_t h g7
  refine W_seq ?_
  refine Vrs hT [] ⟨[(12, kB r10)], [], []⟩ ?_
  refine Vi (r10) (fun g3 => ?_) (fun g3 => ?_)
  ·replace h := bif_t h g3
   refine Vrs hT [] ⟨[(4, kI 0)], [], []⟩ ?_
   refine Vc [] [] (cCmp_R 0) (W_ret ?_)
   exact ⟨.inl rfl, by cases h; rfl⟩
  ·replace h := bif_f h g3
   refine W_skip ?_
   refine Vrs hT [] ⟨[(4, kI (-1))], [], []⟩ ?_
   refine Vc [] [] (cCmp_R (-1)) (W_ret ?_)
   exact ⟨.inl rfl, by cases h; rfl⟩
 ·replace h := bif_f h g7
  refine W_skip ?_
  refine W_seq ?_
  refine Vrs hT [] ⟨[(0, kI l0), (1, kI l1), (13, kB r10)], [], []⟩ ?_
  refine Vi (r10) (fun g6 => ?_) (fun g6 => ?_)
  ·replace h := bif_t h g6
   refine Vrs hT [] ⟨[(4, kI 1)], [], []⟩ ?_
   refine Vc [] [] (cCmp_R 1) (W_ret ?_)
   exact ⟨.inl rfl, by cases h; rfl⟩
  ·replace h := bif_f h g6
   refine W_skip ?_
   refine W_seq ?_
   refine Vrs hT [] ⟨[(0, kI l0), (1, kI l1), (16, kB (decide (l0 < l1)))], [], []⟩ ?_
   refine Vi ((decide (l0 < l1))) (fun g5 => ?_) (fun g5 => ?_)
   ·replace h := bif_t h g5
    refine Vrs hT [] ⟨[(4, kI (-1))], [], []⟩ ?_
    refine Vc [] [] (cCmp_R (-1)) (W_ret ?_)
    exact ⟨.inl rfl, by cases h; rfl⟩
   ·replace h := bif_f h g5
    refine W_skip ?_
    refine W_seq ?_
    refine Vrs hT [] ⟨[(19, kB (decide (l1 < l0)))], [], []⟩ ?_
    refine Vi ((decide (l1 < l0))) (fun g4 => ?_) (fun g4 => ?_)
    ·replace h := bif_t h g4
     refine Vrs hT [] ⟨[(4, kI 1)], [], []⟩ ?_
     refine Vc [] [] (cCmp_R 1) (W_ret ?_)
     exact ⟨.inl rfl, by cases h; rfl⟩
    ·replace h := bif_f h g4
     refine W_skip ?_
     refine Vrs hT [] ⟨[(4, kI 0)], [], []⟩ ?_
     refine Vc [] [] (cCmp_R 0) (W_ret ?_)
     exact ⟨.inl rfl, by cases h; rfl⟩
def cisNaN32_R (r : Bool) : S := ⟨[(2, kB r)], [], []⟩
def cisNaN32_ct (n : Nat) (r : Bool) : Ct := ctc rU32.rd fun _ l0 => ct0 fun H => ([cisNaN32 n l0 = some r], shA H.length (kB r), shH H.length [])
theorem cisNaN32_ok (n : Nat) (r : Bool) : FnOk Tryd.prog Tr 84 (cisNaN32_ct n r) := by
 refine fnok Tryd.func84 ?_
 refine HO_c rU32 fun l0 _ => HO_0 tabO_da (cisNaN32_R r) [.tmp 2] [] 6 Tryd.func84 fun w hG h => ?_
 unfold cisNaN32 at h
 have hT := tabO_da
 refine Vrs hT [] ⟨[(0, kX l0)], [], []⟩ ?_
 refine Vrs hT [] ⟨[(2, kB (l0 != l0))], [], []⟩ ?_
 refine Vc [] [] (cisNaN32_R (l0 != l0)) (W_ret ?_)
 exact ⟨.inl rfl, by cases h; rfl⟩
def cCmp32_R (r : Int) : S := ⟨[(4, kI r)], [], []⟩
def cCmp32_ct (n : Nat) (r : Int) : Ct := ctc rU32.rd fun _ l0 => ctc rU32.rd fun _ l1 => ct0 fun H => ([cCmp32 n l0 l1 = some r], shA H.length (kI r), shH H.length [])
theorem cCmp32_ok (n : Nat) (r : Int) : FnOk Tryd.prog Tr 64 (cCmp32_ct n r) := by
 refine fnok Tryd.func64 ?_
 refine HO_c rU32 fun l0 _ => HO_c rU32 fun l1 _ => HO_0 tabO_da (cCmp32_R r) [.tmp 4] [] 20 Tryd.func64 fun w hG h => ?_
 unfold cCmp32 at h
 have hT := tabO_da
 refine Vrs hT [] ⟨[(0, kX l0), (1, kX l1)], [], []⟩ ?_
 obtain ⟨r8, g1, h⟩ := bind_some' h
 refine Vgs hT (fT 1 (cisNaN32_ok n r8) fN) [] [] [] ⟨[(0, kX l0), (1, kX l1), (5, kB r8)], [], []⟩ (aP g1 aN) ?_
 obtain ⟨r10, g2, h⟩ := bind_some' h
 refine Vgs hT (fT 1 (cisNaN32_ok n r10) fN) [] [] [] ⟨[(0, kX l0), (1, kX l1), (5, kB r8), (6, kB r10)], [], []⟩ (aP g2 aN) ?_
 refine W_seq ?_
 refine Vrs hT [] ⟨[(0, kX l0), (1, kX l1), (6, kB r10), (11, kB r8)], [], []⟩ ?_
 refine Vi (r8) (fun g7 => ?_) (fun g7 => ?_)
 ·replace h := bif_t h g7
  refine W_seq ?_
  refine Vrs hT [] ⟨[(12, kB r10)], [], []⟩ ?_
  refine Vi (r10) (fun g3 => ?_) (fun g3 => ?_)
  ·replace h := bif_t h g3
   refine Vrs hT [] ⟨[(4, kI 0)], [], []⟩ ?_
   refine Vc [] [] (cCmp32_R 0) (W_ret ?_)
   exact ⟨.inl rfl, by cases h; rfl⟩
  ·replace h := bif_f h g3
   refine W_skip ?_
   refine Vrs hT [] ⟨[(4, kI (-1))], [], []⟩ ?_
   refine Vc [] [] (cCmp32_R (-1)) (W_ret ?_)
   exact ⟨.inl rfl, by cases h; rfl⟩
 ·replace h := bif_f h g7
  refine W_skip ?_
  refine W_seq ?_
  refine Vrs hT [] ⟨[(0, kX l0), (1, kX l1), (13, kB r10)], [], []⟩ ?_
  refine Vi (r10) (fun g6 => ?_) (fun g6 => ?_)
  ·replace h := bif_t h g6
   refine Vrs hT [] ⟨[(4, kI 1)], [], []⟩ ?_
   refine Vc [] [] (cCmp32_R 1) (W_ret ?_)
   exact ⟨.inl rfl, by cases h; rfl⟩
  ·replace h := bif_f h g6
   refine W_skip ?_
   refine W_seq ?_
   refine Vrs hT [] ⟨[(0, kX l0), (1, kX l1), (16, kB (decide (l0 < l1)))], [], []⟩ ?_
   refine Vi ((decide (l0 < l1))) (fun g5 => ?_) (fun g5 => ?_)
   ·replace h := bif_t h g5
    refine Vrs hT [] ⟨[(4, kI (-1))], [], []⟩ ?_
    refine Vc [] [] (cCmp32_R (-1)) (W_ret ?_)
    exact ⟨.inl rfl, by cases h; rfl⟩
   ·replace h := bif_f h g5
    refine W_skip ?_
    refine W_seq ?_
    refine Vrs hT [] ⟨[(19, kB (decide (l1 < l0)))], [], []⟩ ?_
    refine Vi ((decide (l1 < l0))) (fun g4 => ?_) (fun g4 => ?_)
    ·replace h := bif_t h g4
     refine Vrs hT [] ⟨[(4, kI 1)], [], []⟩ ?_
     refine Vc [] [] (cCmp32_R 1) (W_ret ?_)
     exact ⟨.inl rfl, by cases h; rfl⟩
    ·replace h := bif_f h g4
     refine W_skip ?_
     refine Vrs hT [] ⟨[(4, kI 0)], [], []⟩ ?_
     refine Vc [] [] (cCmp32_R 0) (W_ret ?_)
     exact ⟨.inl rfl, by cases h; rfl⟩
def pCmp_l1_E (a0 : List UInt32) (a1 : List UInt32) (r9 : List UInt32 × Nat) (r11 : List UInt32 × Nat) (i6_2 : Int) : S := ⟨[(0, kH 0), (1, kH 1), (6, kI i6_2)], [], [⟨(.ro false), 55, 1, r9.2, .w ((a0.drop 0).take r9.2)⟩, ⟨(.ro false), 55, 1, r11.2, .w ((a1.drop 0).take r11.2)⟩]⟩
abbrev pCmp_l1_P (n : Nat) (a0 : List UInt32) (a1 : List UInt32) (r9 : List UInt32 × Nat) (r11 : List UInt32 × Nat) (r : Int) (fu : Nat) : S → Prop := fun s => ∃ (i6_2 : Int), s = pCmp_l1_E a0 a1 r9 r11 i6_2 ∧ pCmp_l1 n a0 a1 r9 r11 fu i6_2 = some r
def pCmp_R (r : Int) : S := ⟨[(4, kI r)], [], []⟩
def pCmp_ct (n : Nat) (r : Int) : Ct := ctc (rW 55).rd fun _ l0 => ctc (rW 55).rd fun _ l1 => ct0 fun H => ([pCmp n l0 l1 = some r], shA H.length (kI r), shH H.length [])
theorem pCmp_ok (n : Nat) (r : Int) : FnOk Tryd.prog Tr 44 (pCmp_ct n r) := by
 refine fnok Tryd.func44 ?_
 refine HO_c (rW 55) fun l0 _ => HO_c (rW 55) fun l1 _ => HO_0 tabO_da (pCmp_R r) [.tmp 4] [] 39 Tryd.func44 fun w hG h => ?_
 unfold pCmp at h
 have hT := tabO_da
 refine Vrs hT [0, 1] ⟨[(0, kH 0), (1, kH 1)], [], [ow 55 l0, ow 55 l1]⟩ ?_
 obtain ⟨r9, g1, h⟩ := bind_some' h
 obtain ⟨r11, g2, h⟩ := bind_some' h
 refine Vgs hT (fT 1 (ptrim_ok n r9) (fT 3 (ptrim_ok n r11) fN)) [] [] [0, 1] ⟨[(0, .c (.sl 0 0 r9.2)), (1, .c (.sl 1 0 r11.2))], [], [ow 55 l0, ow 55 l1]⟩ (aP g1 (aP g2 aN)) ?_
 refine W_seq ?_
 obtain ⟨r16, g3, h⟩ := bind_some' h
 refine Vgs hT (fT 4 (cCmp_ok n r16) fN) [] [] [0, 1] ⟨[(0, .c (.sl 0 0 r9.2)), (1, .c (.sl 1 0 r11.2)), (5, kI r16)], [], [ow 55 l0, ow 55 l1]⟩ (aP g3 aN) ?_
 refine Vrs hT [0, 1] ⟨[(0, .c (.sl 0 0 r9.2)), (1, .c (.sl 1 0 r11.2)), (5, kI r16), (18, kB (r16 != 0))], [], [ow 55 l0, ow 55 l1]⟩ ?_
 refine Vi ((r16 != 0)) (fun g13 => ?_) (fun g13 => ?_)
 ·replace h := bif_t h g13
  refine Vrs hT [] ⟨[(4, kI r16)], [], []⟩ ?_
  refine Vc [] [] (pCmp_R r16) (W_ret ?_)
  exact ⟨.inl rfl, by cases h; rfl⟩
 ·replace h := bif_f h g13
  refine W_skip ?_
  refine W_seq ?_
  obtain ⟨g4, h⟩ := gd_some h
  refine Vgs hT fN [] [] [0, 1] ⟨[(0, .c (.sl 0 0 r9.2)), (1, .c (.sl 1 0 r11.2)), (6, kI (((r9.2 : Nat) : Int) - 1))], [], [ow 55 l0, ow 55 l1]⟩ (aP g4 aN) ?_
  refine W_block ?_
  refine Vc [.vw 0 false, .vw 1 false] [2, 3] (pCmp_l1_E l0 l1 r9 r11 (((r9.2 : Nat) : Int) - 1)) (W_lp ((pCmp_l1_P n l0 l1 r9 r11 r)) n ⟨_, rfl, h⟩ ?_)
  rintro fu_l1 _ ⟨i6_2, rfl, h⟩
  cases fu_l1 with
  | zero => cases h
  | succ fu_l1 =>
   refine ⟨fu_l1, rfl, ?_⟩
   rw [pCmp_l1] at h
   refine W_seq ?_
   refine Vrs hT [0, 1] ⟨[(0, kH 0), (1, kH 1), (6, kI i6_2), (24, kB (decide ((0 : Int) ≤ i6_2)))], [], [⟨(.ro false), 55, 1, r9.2, .w ((l0.drop 0).take r9.2)⟩, ⟨(.ro false), 55, 1, r11.2, .w ((l1.drop 0).take r11.2)⟩]⟩ ?_
   refine Vi ((decide ((0 : Int) ≤ i6_2))) (fun g12 => ?_) (fun g12 => ?_)
   ·replace h := bif_t h g12
    refine W_skip ?_
    refine W_seq ?_
    refine W_block ?_
    obtain ⟨g5, g6, g7, g8, h⟩ := gd4 h
    obtain ⟨r35_3, g9, h⟩ := bind_some' h
    refine Vds hT (fT 8 (cCmp32_ok n r35_3) fN) 8 [] [(0, false), (1, false), (6, false), (30, false), (34, false)] [] [0, 1] ⟨[(0, kH 0), (1, kH 1), (6, kI i6_2), (7, kI r35_3)], [], [⟨(.ro false), 55, 1, r9.2, .w ((l0.drop 0).take r9.2)⟩, ⟨(.ro false), 55, 1, r11.2, .w ((l1.drop 0).take r11.2)⟩]⟩ (aP g5 (aP g6 (aP g7 (aP g8 (aP g9 aN))))) ?_
    refine Vrs hT [0, 1] ⟨[(0, kH 0), (1, kH 1), (6, kI i6_2), (7, kI r35_3), (37, kB (r35_3 != 0))], [], [⟨(.ro false), 55, 1, r9.2, .w ((l0.drop 0).take r9.2)⟩, ⟨(.ro false), 55, 1, r11.2, .w ((l1.drop 0).take r11.2)⟩]⟩ ?_
    refine Vi ((r35_3 != 0)) (fun g11 => ?_) (fun g11 => ?_)
    ·replace h := bif_t h g11
     refine Vrs hT [] ⟨[(4, kI r35_3)], [], []⟩ ?_
     refine Vc [] [] (pCmp_R r35_3) (W_ret ?_)
     exact ⟨.inl rfl, by cases h; rfl⟩
    ·replace h := bif_f h g11
     refine W_skip ?_
     obtain ⟨g10, h⟩ := gd_some h
     refine Vg hT fN [] [] [0, 1] (pCmp_l1_E l0 l1 r9 r11 (i6_2 - 1)) (aP g10 aN) ?_
     exact ⟨_, rfl, h⟩
   ·replace h := bif_f h g12
    refine Vc [] [] ⟨[], [], []⟩ (W_exit ?_)
    refine Vrs hT [] ⟨[(4, kI 0)], [], []⟩ ?_
    refine Vc [] [] (pCmp_R 0) (W_ret ?_)
    exact ⟨.inl rfl, by cases h; rfl⟩
def pshort_l1_E (a0 : List UInt32) (a1 : UInt32) (w6_1 : List UInt32) (y7_1 : UInt64) (i8_1 : Int) : S := ⟨[(0, kH 0), (1, kX a1), (6, kH 1), (7, kY y7_1), (8, kI i8_1)], [], [ow 55 a0, ⟨.row, 55, 1, ((a0.length : Nat) : Int).toNat, .w w6_1⟩]⟩
abbrev pshort_l1_P (n : Nat) (a0 : List UInt32) (a1 : UInt32) (r : List UInt32 × Nat × List UInt32 × Nat) (fu : Nat) : S → Prop := fun s => ∃ (w6_1 : List UInt32), ∃ (y7_1 : UInt64), ∃ (i8_1 : Int), s = pshort_l1_E a0 a1 w6_1 y7_1 i8_1 ∧ pshort_l1 n a0 a1 fu w6_1 y7_1 i8_1 = some r
def pshort_R (r : List UInt32 × Nat × List UInt32 × Nat) : S := ⟨[(4, kH 0), (5, kH 1)], [], [⟨(.ro true), 55, 1, r.2.1, .w r.1⟩, ⟨(.ro true), 55, 1, r.2.2.2, .w r.2.2.1⟩]⟩
def pshort_ct (n : Nat) (r : List UInt32 × Nat × List UInt32 × Nat) : Ct := ctc (rW 55).rd fun _ l0 => ctc rU32.rd fun _ l1 => ct0 fun H => ([pshort n l0 l1 = some r], shA H.length (.t [.c (.wh 0), .c (.wh 1)]), shH H.length [⟨(.ro true), 55, 1, r.2.1, .w r.1⟩, ⟨(.ro true), 55, 1, r.2.2.2, .w r.2.2.1⟩])
theorem pshort_ok (n : Nat) (r : List UInt32 × Nat × List UInt32 × Nat) : FnOk Tryd.prog Tr 85 (pshort_ct n r) := by
 refine fnok Tryd.func85 ?_
 refine HO_c (rW 55) fun l0 _ => HO_c rU32 fun l1 _ => HO_0 tabO_da (pshort_R r) [.tmp 4, .tmp 5] [0, 1] 45 Tryd.func85 fun w hG h => ?_
 unfold pshort at h
 have hT := tabO_da
 refine Vrs hT [0] ⟨[(0, kH 0), (1, kX l1)], [], [ow 55 l0]⟩ ?_
 obtain ⟨g1, g2, g3, h⟩ := gd3 h
 refine Vgs hT fN [] [] [0, 1] ⟨[(0, kH 0), (1, kX l1), (6, kH 1), (7, kY 0)], [], [ow 55 l0, ⟨.row, 55, 1, ((l0.length : Nat) : Int).toNat, .w (List.replicate (((l0.length : Nat) : Int).toNat) 0)⟩]⟩ (aP g1 (aP g2 (aP g3 aN))) ?_
 refine W_seq ?_
 obtain ⟨g4, h⟩ := gd_some h
 refine Vgs hT fN [] [] [0, 1] ⟨[(0, kH 0), (1, kX l1), (6, kH 1), (7, kY 0), (8, kI (((l0.length : Nat) : Int) - 1))], [], [ow 55 l0, ⟨.row, 55, 1, ((l0.length : Nat) : Int).toNat, .w (List.replicate (((l0.length : Nat) : Int).toNat) 0)⟩]⟩ (aP g4 aN) ?_
 refine W_block ?_
 refine Vc [] [0, 1] (pshort_l1_E l0 l1 (List.replicate (((l0.length : Nat) : Int).toNat) 0) 0 (((l0.length : Nat) : Int) - 1)) (W_lp ((pshort_l1_P n l0 l1 r)) n ⟨_, _, _, rfl, h⟩ ?_)
 rintro fu_l1 _ ⟨w6_1, y7_1, i8_1, rfl, h⟩
 cases fu_l1 with
 | zero => cases h
 | succ fu_l1 =>
  refine ⟨fu_l1, rfl, ?_⟩
  rw [pshort_l1] at h
  refine W_seq ?_
  refine Vrs hT [0, 1] ⟨[(0, kH 0), (1, kX l1), (6, kH 1), (7, kY y7_1), (8, kI i8_1), (16, kB (decide ((0 : Int) ≤ i8_1)))], [], [ow 55 l0, ⟨.row, 55, 1, ((l0.length : Nat) : Int).toNat, .w w6_1⟩]⟩ ?_
  refine Vi ((decide ((0 : Int) ≤ i8_1))) (fun g15 => ?_) (fun g15 => ?_)
  ·replace h := bif_t h g15
   refine W_skip ?_
   refine W_seq ?_
   refine W_block ?_
   obtain ⟨g5, g6, g7, h⟩ := gd3 h
   refine Vgs hT fN [] [] [0, 1] ⟨[(0, kH 0), (1, kX l1), (6, kH 1), (7, kY ((shl64 y7_1 32) ||| ((l0.getD i8_1.toNat 0).toUInt64))), (8, kI i8_1)], [], [ow 55 l0, ⟨.row, 55, 1, ((l0.length : Nat) : Int).toNat, .w w6_1⟩]⟩ (aP g5 (aP g6 (aP g7 aN))) ?_
   obtain ⟨g8, g9, g10, g11, h⟩ := gd4 h
   refine W_regT hT fN (by kernel_rfl) 13 1 [] [] [0, 1, 6, 7, 8] [0, 1] (s' := ⟨[(0, kH 0), (1, kX l1), (6, kH 1), (7, kY (((shl64 y7_1 32) ||| ((l0.getD i8_1.toNat 0).toUInt64)) % l1.toUInt64)), (8, kI i8_1)], [], [ow 55 l0, ⟨.row, 55, 1, ((l0.length : Nat) : Int).toNat, .w (w6_1.set i8_1.toNat ((((shl64 y7_1 32) ||| ((l0.getD i8_1.toNat 0).toUInt64)) / l1.toUInt64).toUInt32))⟩]⟩) (by kernel_rfl) (by kernel_rfl) (allP_cons.2 ⟨g8, (allP_cons.2 ⟨g9, (allP_cons.2 ⟨g10, (allP_cons.2 ⟨g11, allP_nil⟩)⟩)⟩)⟩) ?_
   obtain ⟨g12, h⟩ := gd_some h
   refine Vg hT fN [] [] [0, 1] (pshort_l1_E l0 l1 (w6_1.set i8_1.toNat ((((shl64 y7_1 32) ||| ((l0.getD i8_1.toNat 0).toUInt64)) / l1.toUInt64).toUInt32)) (((shl64 y7_1 32) ||| ((l0.getD i8_1.toNat 0).toUInt64)) % l1.toUInt64) (i8_1 - 1)) (aP g12 aN) ?_
   exact ⟨_, _, _, rfl, h⟩
  ·replace h := bif_f h g15
   refine Vc [] [1] ⟨[(6, kH 0), (7, kY y7_1)], [], [⟨.row, 55, 1, ((l0.length : Nat) : Int).toNat, .w w6_1⟩]⟩ (W_exit ?_)
   obtain ⟨r40_1, g13, h⟩ := bind_some' h
   obtain ⟨r44_1, g14, h⟩ := bind_some' h
   refine Vgs hT (fT 1 (ptrim_ok n r40_1) (fT 5 (ptrim_ok n r44_1) fN)) [] [] [0, 1] ⟨[(4, .c (.sl 0 0 r40_1.2)), (5, .c (.sl 1 0 r44_1.2))], [], [⟨.row, 55, 1, ((l0.length : Nat) : Int).toNat, .w w6_1⟩, ⟨.row, 55, 1, 1, .w [y7_1.toUInt32]⟩]⟩ (aP g13 (aP g14 aN)) ?_
   refine Vc [.vw 4 true, .vw 5 true] [2, 3] (pshort_R (((w6_1.drop 0).take r40_1.2), r40_1.2, (([y7_1.toUInt32].drop 0).take r44_1.2), r44_1.2)) (W_ret ?_)
   exact ⟨.inl rfl, by cases h; rfl⟩
def blen32_j2_E (x0_3 : UInt32) (i2_4 : Int) : S := ⟨[(0, kX x0_3), (2, kI i2_4)], [], []⟩
abbrev blen32_j2_P (n : Nat) (r : Int) : S → Prop := fun s => ∃ (x0_3 : UInt32), ∃ (i2_4 : Int), s = blen32_j2_E x0_3 i2_4 ∧ blen32_j2 n x0_3 i2_4 = some r
def blen32_j1_E (x0_2 : UInt32) (i2_3 : Int) : S := ⟨[(0, kX x0_2), (2, kI i2_3)], [], []⟩
abbrev blen32_j1_P (n : Nat) (r : Int) : S → Prop := fun s => ∃ (x0_2 : UInt32), ∃ (i2_3 : Int), s = blen32_j1_E x0_2 i2_3 ∧ blen32_j1 n x0_2 i2_3 = some r
def blen32_R (r : Int) : S := ⟨[(2, kI r)], [], []⟩
def blen32_ct (n : Nat) (r : Int) : Ct := ctc rU32.rd fun _ l0 => ct0 fun H => ([blen32 n l0 = some r], shA H.length (kI r), shH H.length [])
theorem blen32_ok (n : Nat) (r : Int) : FnOk Tryd.prog Tr 100 (blen32_ct n r) := by
 refine fnok Tryd.func100 ?_
 refine HO_c rU32 fun l0 _ => HO_0 tabO_da (blen32_R r) [.tmp 2] [] 19 Tryd.func100 fun w hG h => ?_
 unfold blen32 at h
 have hT := tabO_da
 refine Vrs hT [] ⟨[(0, kX l0), (2, kI 0)], [], []⟩ ?_
 refine W_join (blen32_j1_P n r) ?_ ?_
 ·rintro _ ⟨x0_2, i2_3, rfl, h⟩
  unfold blen32_j1 at h
  refine W_join (blen32_j2_P n r) ?_ ?_
  ·rintro _ ⟨x0_3, i2_4, rfl, h⟩
   unfold blen32_j2 at h
   obtain ⟨g1, g2, g3, h⟩ := gd3 h
   refine Vgs hT fN [] [] [] ⟨[(2, kI (i2_4 + (((([0, 1, 2, 2, 3, 3, 3, 3, 4, 4, 4, 4, 4, 4, 4, 4, 5, 5, 5, 5, 5, 5, 5, 5, 5, 5, 5, 5, 5, 5, 5, 5, 6, 6, 6, 6, 6, 6, 6, 6, 6, 6, 6, 6, 6, 6, 6, 6, 6, 6, 6, 6, 6, 6, 6, 6, 6, 6, 6, 6, 6, 6, 6, 6, 7, 7, 7, 7, 7, 7, 7, 7, 7, 7, 7, 7, 7, 7, 7, 7, 7, 7, 7, 7, 7, 7, 7, 7, 7, 7, 7, 7, 7, 7, 7, 7, 7, 7, 7, 7, 7, 7, 7, 7, 7, 7, 7, 7, 7, 7, 7, 7, 7, 7, 7, 7, 7, 7, 7, 7, 7, 7, 7, 7, 7, 7, 7, 7, 8, 8, 8, 8, 8, 8, 8, 8, 8, 8, 8, 8, 8, 8, 8, 8, 8, 8, 8, 8, 8, 8, 8, 8, 8, 8, 8, 8, 8, 8, 8, 8, 8, 8, 8, 8, 8, 8, 8, 8, 8, 8, 8, 8, 8, 8, 8, 8, 8, 8, 8, 8, 8, 8, 8, 8, 8, 8, 8, 8, 8, 8, 8, 8, 8, 8, 8, 8, 8, 8, 8, 8, 8, 8, 8, 8, 8, 8, 8, 8, 8, 8, 8, 8, 8, 8, 8, 8, 8, 8, 8, 8, 8, 8, 8, 8, 8, 8, 8, 8, 8, 8, 8, 8, 8, 8, 8, 8, 8, 8, 8, 8, 8, 8, 8, 8, 8, 8, 8, 8, 8, 8, 8, 8, 8, 8, 8, 8] : List UInt8).getD (((x0_3.toUInt8.toNat : Nat) : Int).toNat) 0).toNat : Nat) : Int)))], [], []⟩ (aP g1 (aP g2 (aP g3 aN))) ?_
   refine Vc [] [] (blen32_R (i2_4 + (((([0, 1, 2, 2, 3, 3, 3, 3, 4, 4, 4, 4, 4, 4, 4, 4, 5, 5, 5, 5, 5, 5, 5, 5, 5, 5, 5, 5, 5, 5, 5, 5, 6, 6, 6, 6, 6, 6, 6, 6, 6, 6, 6, 6, 6, 6, 6, 6, 6, 6, 6, 6, 6, 6, 6, 6, 6, 6, 6, 6, 6, 6, 6, 6, 7, 7, 7, 7, 7, 7, 7, 7, 7, 7, 7, 7, 7, 7, 7, 7, 7, 7, 7, 7, 7, 7, 7, 7, 7, 7, 7, 7, 7, 7, 7, 7, 7, 7, 7, 7, 7, 7, 7, 7, 7, 7, 7, 7, 7, 7, 7, 7, 7, 7, 7, 7, 7, 7, 7, 7, 7, 7, 7, 7, 7, 7, 7, 7, 8, 8, 8, 8, 8, 8, 8, 8, 8, 8, 8, 8, 8, 8, 8, 8, 8, 8, 8, 8, 8, 8, 8, 8, 8, 8, 8, 8, 8, 8, 8, 8, 8, 8, 8, 8, 8, 8, 8, 8, 8, 8, 8, 8, 8, 8, 8, 8, 8, 8, 8, 8, 8, 8, 8, 8, 8, 8, 8, 8, 8, 8, 8, 8, 8, 8, 8, 8, 8, 8, 8, 8, 8, 8, 8, 8, 8, 8, 8, 8, 8, 8, 8, 8, 8, 8, 8, 8, 8, 8, 8, 8, 8, 8, 8, 8, 8, 8, 8, 8, 8, 8, 8, 8, 8, 8, 8, 8, 8, 8, 8, 8, 8, 8, 8, 8, 8, 8, 8, 8, 8, 8, 8, 8, 8, 8, 8, 8] : List UInt8).getD (((x0_3.toUInt8.toNat : Nat) : Int).toNat) 0).toNat : Nat) : Int))) (W_ret ?_)
   exact ⟨.inl rfl, by cases h; rfl⟩
  ·refine W_seq ?_
   refine Vr hT [] ⟨[(0, kX x0_2), (2, kI i2_3), (8, kB (decide ((256 : UInt32) ≤ x0_2)))], [], []⟩ ?_
   refine Vi ((decide ((256 : UInt32) ≤ x0_2))) (fun g6 => ?_) (fun g6 => ?_)
   ·replace h := bif_t h g6
    obtain ⟨g4, h⟩ := gd_some h
    refine Vgs hT fN [] [] [] ⟨[(0, kX (shr32 x0_2 8)), (2, kI i2_3)], [], []⟩ (aP g4 aN) ?_
    obtain ⟨g5, h⟩ := gd_some h
    refine Vg hT fN [] [] [] (blen32_j2_E (shr32 x0_2 8) (i2_3 + 8)) (aP g5 aN) ?_
    exact ⟨_, _, rfl, h⟩
   ·replace h := bif_f h g6
    refine Vc [] [] (blen32_j2_E x0_2 i2_3) (W_skip ?_)
    exact ⟨_, _, rfl, h⟩
 ·refine W_seq ?_
  refine Vr hT [] ⟨[(0, kX l0), (2, kI 0), (4, kB (decide ((65536 : UInt32) ≤ l0)))], [], []⟩ ?_
  refine Vi ((decide ((65536 : UInt32) ≤ l0))) (fun g8 => ?_) (fun g8 => ?_)
  ·replace h := bif_t h g8
   obtain ⟨g7, h⟩ := gd_some h
   refine Vgs hT fN [] [] [] ⟨[(0, kX (shr32 l0 16))], [], []⟩ (aP g7 aN) ?_
   refine Vr hT [] (blen32_j1_E (shr32 l0 16) 16) ?_
   exact ⟨_, _, rfl, h⟩
  ·replace h := bif_f h g8
   refine Vc [] [] (blen32_j1_E l0 0) (W_skip ?_)
   exact ⟨_, _, rfl, h⟩
def bclz32_R (r : Int) : S := ⟨[(2, kI r)], [], []⟩
def bclz32_ct (n : Nat) (r : Int) : Ct := ctc rU32.rd fun _ l0 => ct0 fun H => ([bclz32 n l0 = some r], shA H.length (kI r), shH H.length [])
theorem bclz32_ok (n : Nat) (r : Int) : FnOk Tryd.prog Tr 86 (bclz32_ct n r) := by
 refine fnok Tryd.func86 ?_
 refine HO_c rU32 fun l0 _ => HO_0 tabO_da (bclz32_R r) [.tmp 2] [] 6 Tryd.func86 fun w hG h => ?_
 unfold bclz32 at h
 have hT := tabO_da
 refine Vrs hT [] ⟨[(0, kX l0)], [], []⟩ ?_
 obtain ⟨r4, g1, h⟩ := bind_some' h
 obtain ⟨g2, h⟩ := gd_some h
 refine Vgs hT (fT 1 (blen32_ok n r4) fN) [] [] [] ⟨[(2, kI (32 - r4))], [], []⟩ (aP g1 (aP g2 aN)) ?_
 refine Vc [] [] (bclz32_R (32 - r4)) (W_ret ?_)
 exact ⟨.inl rfl, by cases h; rfl⟩
def pshift_l1_E (a0 : List UInt32) (a1 : Int) (w5_2 : List UInt32) (i14_2 : Int) : S := ⟨[(1, kI a1), (5, kH 0), (12, kH 1), (13, kI ((a0.length : Nat) : Int)), (14, kI i14_2)], [], [⟨.row, 55, 1, (((a0.length : Nat) : Int) + 1).toNat, .w w5_2⟩, ow 55 a0]⟩
abbrev pshift_l1_P (n : Nat) (a0 : List UInt32) (a1 : Int) (r : List UInt32 × Nat) (fu : Nat) : S → Prop := fun s => ∃ (w5_2 : List UInt32), ∃ (i14_2 : Int), s = pshift_l1_E a0 a1 w5_2 i14_2 ∧ pshift_l1 n a0 a1 fu w5_2 i14_2 = some r
def pshift_R (r : List UInt32 × Nat) : S := ⟨[(4, kH 0)], [], [⟨.row, 55, 1, r.2, .w r.1⟩]⟩
def pshift_ct (n : Nat) (r : List UInt32 × Nat) : Ct := ctc (rW 55).rd fun _ l0 => ctc rI.rd fun _ l1 => ct0 fun H => ([pshift n l0 l1 = some r], shA H.length (kH 0), shH H.length [⟨.row, 55, 1, r.2, .w r.1⟩])
theorem pshift_ok (n : Nat) (r : List UInt32 × Nat) : FnOk Tryd.prog Tr 87 (pshift_ct n r) := by
 refine fnok Tryd.func87 ?_
 refine HO_c (rW 55) fun l0 _ => HO_c rI fun l1 _ => HO_0 tabO_da (pshift_R r) [.tmp 4] [0] 40 Tryd.func87 fun w hG h => ?_
 unfold pshift at h
 have hT := tabO_da
 refine Vrs hT [0] ⟨[(0, kH 0), (1, kI l1)], [], [ow 55 l0]⟩ ?_
 obtain ⟨g1, g2, g3, g4, h⟩ := gd4 h
 refine Vgs hT fN [] [] [0, 1] ⟨[(0, kH 0), (1, kI l1), (5, kH 1)], [], [ow 55 l0, ⟨.row, 55, 1, (((l0.length : Nat) : Int) + 1).toNat, .w (List.replicate ((((l0.length : Nat) : Int) + 1).toNat) 0)⟩]⟩ (aP g1 (aP g2 (aP g3 (aP g4 aN)))) ?_
 refine W_seq ?_
 refine Vrs hT [1, 0] ⟨[(1, kI l1), (5, kH 0), (12, kH 1), (13, kI ((l0.length : Nat) : Int)), (14, kI 0)], [], [⟨.row, 55, 1, (((l0.length : Nat) : Int) + 1).toNat, .w (List.replicate ((((l0.length : Nat) : Int) + 1).toNat) 0)⟩, ow 55 l0]⟩ ?_
 refine W_block ?_
 refine Vc [] [0, 1] (pshift_l1_E l0 l1 (List.replicate ((((l0.length : Nat) : Int) + 1).toNat) 0) 0) (W_lp ((pshift_l1_P n l0 l1 r)) n ⟨_, _, rfl, h⟩ ?_)
 rintro fu_l1 _ ⟨w5_2, i14_2, rfl, h⟩
 cases fu_l1 with
 | zero => cases h
 | succ fu_l1 =>
  refine ⟨fu_l1, rfl, ?_⟩
  rw [pshift_l1] at h
  refine Vrs hT [0, 1] ⟨[(1, kI l1), (5, kH 0), (12, kH 1), (13, kI ((l0.length : Nat) : Int)), (14, kI i14_2), (15, kB (decide (i14_2 < ((l0.length : Nat) : Int))))], [], [⟨.row, 55, 1, (((l0.length : Nat) : Int) + 1).toNat, .w w5_2⟩, ow 55 l0]⟩ ?_
  refine W_seq ?_
  refine Vi ((decide (i14_2 < ((l0.length : Nat) : Int)))) (fun g18 => ?_) (fun g18 => ?_)
  ·replace h := bif_t h g18
   refine W_skip ?_
   refine W_seq ?_
   refine W_block ?_
   obtain ⟨g5, g6, h⟩ := gd2 h
   refine Vgs hT fN [] [] [0, 1] ⟨[(1, kI l1), (5, kH 0), (6, kI i14_2), (7, kX (l0.getD i14_2.toNat 0)), (12, kH 1), (13, kI ((l0.length : Nat) : Int)), (14, kI i14_2)], [], [⟨.row, 55, 1, (((l0.length : Nat) : Int) + 1).toNat, .w w5_2⟩, ow 55 l0]⟩ (aP g5 (aP g6 aN)) ?_
   obtain ⟨g7, g8, g9, g10, g11, h⟩ := gd5 h
   refine Vds hT fN 7 [] [(1, false), (5, false), (6, false), (7, false), (12, false), (13, false), (14, false), (19, false), (20, false), (22, false), (25, false)] [] [0, 1] ⟨[(1, kI l1), (5, kH 0), (6, kI i14_2), (7, kX (l0.getD i14_2.toNat 0)), (12, kH 1), (13, kI ((l0.length : Nat) : Int)), (14, kI i14_2)], [], [⟨.row, 55, 1, (((l0.length : Nat) : Int) + 1).toNat, .w (w5_2.set i14_2.toNat ((w5_2.getD i14_2.toNat 0) ||| (shl32 (l0.getD i14_2.toNat 0) l1)))⟩, ow 55 l0]⟩ (aP g7 (aP g8 (aP g9 (aP g10 (aP g11 aN))))) ?_
   obtain ⟨g12, g13, g14, g15, g16, h⟩ := gd5 h
   refine Vg hT fN [] [] [0, 1] ⟨[(1, kI l1), (5, kH 0), (12, kH 1), (13, kI ((l0.length : Nat) : Int)), (14, kI i14_2)], [], [⟨.row, 55, 1, (((l0.length : Nat) : Int) + 1).toNat, .w ((w5_2.set i14_2.toNat ((w5_2.getD i14_2.toNat 0) ||| (shl32 (l0.getD i14_2.toNat 0) l1))).set ((i14_2 + 1).toNat) ((shr64 (shl64 ((l0.getD i14_2.toNat 0).toUInt64) l1) 32).toUInt32))⟩, ow 55 l0]⟩ (aP g12 (aP g13 (aP g14 (aP g15 (aP g16 aN))))) ?_
   obtain ⟨g17, h⟩ := gd_some h
   refine Vg hT fN [] [] [0, 1] (pshift_l1_E l0 l1 ((w5_2.set i14_2.toNat ((w5_2.getD i14_2.toNat 0) ||| (shl32 (l0.getD i14_2.toNat 0) l1))).set ((i14_2 + 1).toNat) ((shr64 (shl64 ((l0.getD i14_2.toNat 0).toUInt64) l1) 32).toUInt32)) (i14_2 + 1)) (aP g17 aN) ?_
   exact ⟨_, _, rfl, h⟩
  ·replace h := bif_f h g18
   refine Vc [] [0] ⟨[(5, kH 0)], [], [⟨.row, 55, 1, (((l0.length : Nat) : Int) + 1).toNat, .w w5_2⟩]⟩ (W_exit ?_)
   refine Vrs hT [0] ⟨[(4, kH 0)], [], [⟨.row, 55, 1, (((l0.length : Nat) : Int) + 1).toNat, .w w5_2⟩]⟩ ?_
   refine Vc [] [0] (pshift_R (w5_2, (((l0.length : Nat) : Int) + 1).toNat)) (W_ret ?_)
   exact ⟨.inl rfl, by cases h; rfl⟩
def pdigit_j1_E (y10_7 : UInt64) : S := ⟨[(10, kY y10_7)], [], []⟩
abbrev pdigit_j1_P (n : Nat) (r : UInt64) : S → Prop := fun s => ∃ (y10_7 : UInt64), s = pdigit_j1_E y10_7 ∧ pdigit_j1 n y10_7 = some r
def pdigit_l1_E (a0 : List UInt32) (a1 : List UInt32) (a2 : Int) (y10_8 : UInt64) (y11_5 : UInt64) : S := ⟨[(0, kH 0), (1, kH 1), (2, kI a2), (7, kI ((a1.length : Nat) : Int)), (8, kY ((a1.getD ((((a1.length : Nat) : Int) - 1).toNat) 0).toUInt64)), (10, kY y10_8), (11, kY y11_5)], [], [ow 55 a0, ow 55 a1]⟩
abbrev pdigit_l1_P (n : Nat) (a0 : List UInt32) (a1 : List UInt32) (a2 : Int) (r : UInt64) (fu : Nat) : S → Prop := fun s => ∃ (y10_8 : UInt64), ∃ (y11_5 : UInt64), s = pdigit_l1_E a0 a1 a2 y10_8 y11_5 ∧ pdigit_l1 n a0 a1 a2 fu y10_8 y11_5 = some r
def pdigit_R (r : UInt64) : S := ⟨[(6, kY r)], [], []⟩
def pdigit_ct (n : Nat) (r : UInt64) : Ct := ctc (rW 55).rd fun _ l0 => ctc (rW 55).rd fun _ l1 => ctc rI.rd fun _ l2 => ct0 fun H => ([pdigit n l0 l1 l2 = some r], shA H.length (kY r), shH H.length [])
theorem pdigit_ok (n : Nat) (r : UInt64) : FnOk Tryd.prog Tr 88 (pdigit_ct n r) := by
 refine fnok Tryd.func88 ?_
 refine HO_c (rW 55) fun l0 _ => HO_c (rW 55) fun l1 _ => HO_c rI fun l2 _ => HO_0 tabO_da (pdigit_R r) [.tmp 6] [] 77 Tryd.func88 fun w hG h => ?_
 unfold pdigit at h
 have hT := tabO_da
 refine Vrs hT [0, 1] ⟨[(0, kH 0), (1, kH 1), (2, kI l2)], [], [ow 55 l0, ow 55 l1]⟩ ?_
 refine Vrs hT [0, 1] ⟨[(0, kH 0), (1, kH 1), (2, kI l2), (7, kI ((l1.length : Nat) : Int))], [], [ow 55 l0, ow 55 l1]⟩ ?_
 obtain ⟨g1, g2, g3, h⟩ := gd3 h
 refine Vgs hT fN [] [] [0, 1] ⟨[(0, kH 0), (1, kH 1), (2, kI l2), (7, kI ((l1.length : Nat) : Int)), (8, kY ((l1.getD ((((l1.length : Nat) : Int) - 1).toNat) 0).toUInt64))], [], [ow 55 l0, ow 55 l1]⟩ (aP g1 (aP g2 (aP g3 aN))) ?_
 obtain ⟨g4, g5, g6, g7, g8, h⟩ := gd5 h
 obtain ⟨g9, g10, g11, h⟩ := gd3 h
 refine Vds hT fN 16 [] [(0, false), (1, false), (2, false), (7, false), (8, false), (27, false), (35, false)] [] [0, 1] ⟨[(0, kH 0), (1, kH 1), (2, kI l2), (7, kI ((l1.length : Nat) : Int)), (8, kY ((l1.getD ((((l1.length : Nat) : Int) - 1).toNat) 0).toUInt64)), (9, kY ((shl64 ((l0.getD ((l2 + ((l1.length : Nat) : Int)).toNat) 0).toUInt64) 32) ||| ((l0.getD (((l2 + ((l1.length : Nat) : Int)) - 1).toNat) 0).toUInt64)))], [], [ow 55 l0, ow 55 l1]⟩ (aP g4 (aP g5 (aP g6 (aP g7 (aP g8 (aP g9 (aP g10 (aP g11 aN)))))))) ?_
 obtain ⟨g12, g13, h⟩ := gd2 h
 refine Vds hT fN 7 [] [(0, false), (1, false), (2, false), (7, false), (8, false), (10, false), (42, false)] [] [0, 1] ⟨[(0, kH 0), (1, kH 1), (2, kI l2), (7, kI ((l1.length : Nat) : Int)), (8, kY ((l1.getD ((((l1.length : Nat) : Int) - 1).toNat) 0).toUInt64)), (10, kY (((shl64 ((l0.getD ((l2 + ((l1.length : Nat) : Int)).toNat) 0).toUInt64) 32) ||| ((l0.getD (((l2 + ((l1.length : Nat) : Int)) - 1).toNat) 0).toUInt64)) / ((l1.getD ((((l1.length : Nat) : Int) - 1).toNat) 0).toUInt64))), (11, kY (((shl64 ((l0.getD ((l2 + ((l1.length : Nat) : Int)).toNat) 0).toUInt64) 32) ||| ((l0.getD (((l2 + ((l1.length : Nat) : Int)) - 1).toNat) 0).toUInt64)) % ((l1.getD ((((l1.length : Nat) : Int) - 1).toNat) 0).toUInt64)))], [], [ow 55 l0, ow 55 l1]⟩ (aP g12 (aP g13 aN)) ?_
 refine W_join (pdigit_j1_P n r) ?_ ?_
 ·rintro _ ⟨y10_7, rfl, h⟩
  unfold pdigit_j1 at h
  refine Vrs hT [] ⟨[(6, kY y10_7)], [], []⟩ ?_
  refine Vc [] [] (pdigit_R y10_7) (W_ret ?_)
  exact ⟨.inl rfl, by cases h; rfl⟩
 ·refine W_block ?_
  refine Vc [] [0, 1] (pdigit_l1_E l0 l1 l2 (((shl64 ((l0.getD ((l2 + ((l1.length : Nat) : Int)).toNat) 0).toUInt64) 32) ||| ((l0.getD (((l2 + ((l1.length : Nat) : Int)) - 1).toNat) 0).toUInt64)) / ((l1.getD ((((l1.length : Nat) : Int) - 1).toNat) 0).toUInt64)) (((shl64 ((l0.getD ((l2 + ((l1.length : Nat) : Int)).toNat) 0).toUInt64) 32) ||| ((l0.getD (((l2 + ((l1.length : Nat) : Int)) - 1).toNat) 0).toUInt64)) % ((l1.getD ((((l1.length : Nat) : Int) - 1).toNat) 0).toUInt64))) (W_lp ((pdigit_l1_P n l0 l1 l2 r)) n ⟨_, _, rfl, h⟩ ?_)
  rintro fu_l1 _ ⟨y10_8, y11_5, rfl, h⟩
  cases fu_l1 with
  | zero => cases h
  | succ fu_l1 =>
   refine ⟨fu_l1, rfl, ?_⟩
   rw [pdigit_l1] at h
   refine W_seq ?_
   refine W_seq ?_
   obtain ⟨g14, h⟩ := gd_some h
   rcases Bool.eq_false_or_eq_true (decide ((0 : UInt64) < (shr64 y10_8 32))) with g15 | g15
   ·replace h := bif_t h g15
    refine Vd hT fN 23 [(3, true)] [(0, false), (1, false), (2, false), (7, false), (8, false), (10, false), (11, false), (46, false), (54, false), (65, false)] [] [0, 1] ⟨[(0, kH 0), (1, kH 1), (2, kI l2), (7, kI ((l1.length : Nat) : Int)), (8, kY ((l1.getD ((((l1.length : Nat) : Int) - 1).toNat) 0).toUInt64)), (10, kY y10_8), (11, kY y11_5), (67, kB true)], [], [ow 55 l0, ow 55 l1]⟩ (aP g14 (aP g15 aN)) ?_
    refine Vi (true) (fun _ => ?_) (fun hb => by cases hb)
    refine W_skip ?_
    refine W_block ?_
    refine Vrs hT [0, 1] ⟨[(0, kH 0), (1, kH 1), (2, kI l2), (7, kI ((l1.length : Nat) : Int)), (8, kY ((l1.getD ((((l1.length : Nat) : Int) - 1).toNat) 0).toUInt64)), (10, kY (y10_8 - (1 : UInt64))), (11, kY y11_5)], [], [ow 55 l0, ow 55 l1]⟩ ?_
    refine Vrs hT [0, 1] ⟨[(0, kH 0), (1, kH 1), (2, kI l2), (7, kI ((l1.length : Nat) : Int)), (8, kY ((l1.getD ((((l1.length : Nat) : Int) - 1).toNat) 0).toUInt64)), (10, kY (y10_8 - (1 : UInt64))), (11, kY (y11_5 + ((l1.getD ((((l1.length : Nat) : Int) - 1).toNat) 0).toUInt64)))], [], [ow 55 l0, ow 55 l1]⟩ ?_
    obtain ⟨g16, h⟩ := gd_some h
    refine Vgs hT fN [] [] [0, 1] ⟨[(0, kH 0), (1, kH 1), (2, kI l2), (7, kI ((l1.length : Nat) : Int)), (8, kY ((l1.getD ((((l1.length : Nat) : Int) - 1).toNat) 0).toUInt64)), (10, kY (y10_8 - (1 : UInt64))), (11, kY (y11_5 + ((l1.getD ((((l1.length : Nat) : Int) - 1).toNat) 0).toUInt64))), (75, kB (decide ((0 : UInt64) < (shr64 (y11_5 + ((l1.getD ((((l1.length : Nat) : Int) - 1).toNat) 0).toUInt64)) 32))))], [], [ow 55 l0, ow 55 l1]⟩ (aP g16 aN) ?_
    refine Vi ((decide ((0 : UInt64) < (shr64 (y11_5 + ((l1.getD ((((l1.length : Nat) : Int) - 1).toNat) 0).toUInt64)) 32)))) (fun g17 => ?_) (fun g17 => ?_)
    ·replace h := bif_t h g17
     refine Vc [] [] (pdigit_j1_E (y10_8 - (1 : UInt64))) (W_exit ?_)
     exact ⟨_, rfl, h⟩
    ·replace h := bif_f h g17
     refine Vc [] [0, 1] (pdigit_l1_E l0 l1 l2 (y10_8 - (1 : UInt64)) (y11_5 + ((l1.getD ((((l1.length : Nat) : Int) - 1).toNat) 0).toUInt64))) (W_skip ?_)
     exact ⟨_, _, rfl, h⟩
   ·replace h := bif_f h g15
    obtain ⟨g18, g19, g20, g21, g22, h⟩ := gd5 h
    obtain ⟨g23, g24, g25, h⟩ := gd3 h
    refine Vd hT fN 23 [(3, false)] [(0, false), (1, false), (2, false), (7, false), (8, false), (10, false), (11, false), (46, false), (54, false), (65, false)] [] [0, 1] ⟨[(0, kH 0), (1, kH 1), (2, kI l2), (7, kI ((l1.length : Nat) : Int)), (8, kY ((l1.getD ((((l1.length : Nat) : Int) - 1).toNat) 0).toUInt64)), (10, kY y10_8), (11, kY y11_5), (67, kB (decide (((shl64 y11_5 32) ||| ((l0.getD (((l2 + ((l1.length : Nat) : Int)) - 2).toNat) 0).toUInt64)) < (y10_8 * ((l1.getD ((((l1.length : Nat) : Int) - 2).toNat) 0).toUInt64)))))], [], [ow 55 l0, ow 55 l1]⟩ (aP g14 (aP g15 (aP g18 (aP g19 (aP g20 (aP g21 (aP g22 (aP g23 (aP g24 (aP g25 aN)))))))))) ?_
    refine Vi ((decide (((shl64 y11_5 32) ||| ((l0.getD (((l2 + ((l1.length : Nat) : Int)) - 2).toNat) 0).toUInt64)) < (y10_8 * ((l1.getD ((((l1.length : Nat) : Int) - 2).toNat) 0).toUInt64))))) (fun g28 => ?_) (fun g28 => ?_)
    ·replace h := bif_t h g28
     refine W_skip ?_
     refine W_block ?_
     refine Vrs hT [0, 1] ⟨[(0, kH 0), (1, kH 1), (2, kI l2), (7, kI ((l1.length : Nat) : Int)), (8, kY ((l1.getD ((((l1.length : Nat) : Int) - 1).toNat) 0).toUInt64)), (10, kY (y10_8 - (1 : UInt64))), (11, kY y11_5)], [], [ow 55 l0, ow 55 l1]⟩ ?_
     refine Vrs hT [0, 1] ⟨[(0, kH 0), (1, kH 1), (2, kI l2), (7, kI ((l1.length : Nat) : Int)), (8, kY ((l1.getD ((((l1.length : Nat) : Int) - 1).toNat) 0).toUInt64)), (10, kY (y10_8 - (1 : UInt64))), (11, kY (y11_5 + ((l1.getD ((((l1.length : Nat) : Int) - 1).toNat) 0).toUInt64)))], [], [ow 55 l0, ow 55 l1]⟩ ?_
     obtain ⟨g26, h⟩ := gd_some h
     refine Vgs hT fN [] [] [0, 1] ⟨[(0, kH 0), (1, kH 1), (2, kI l2), (7, kI ((l1.length : Nat) : Int)), (8, kY ((l1.getD ((((l1.length : Nat) : Int) - 1).toNat) 0).toUInt64)), (10, kY (y10_8 - (1 : UInt64))), (11, kY (y11_5 + ((l1.getD ((((l1.length : Nat) : Int) - 1).toNat) 0).toUInt64))), (75, kB (decide ((0 : UInt64) < (shr64 (y11_5 + ((l1.getD ((((l1.length : Nat) : Int) - 1).toNat) 0).toUInt64)) 32))))], [], [ow 55 l0, ow 55 l1]⟩ (aP g26 aN) ?_
     refine Vi ((decide ((0 : UInt64) < (shr64 (y11_5 + ((l1.getD ((((l1.length : Nat) : Int) - 1).toNat) 0).toUInt64)) 32)))) (fun g27 => ?_) (fun g27 => ?_)
     ·replace h := bif_t h g27
      refine Vc [] [] (pdigit_j1_E (y10_8 - (1 : UInt64))) (W_exit ?_)
      exact ⟨_, rfl, h⟩
     ·replace h := bif_f h g27
      refine Vc [] [0, 1] (pdigit_l1_E l0 l1 l2 (y10_8 - (1 : UInt64)) (y11_5 + ((l1.getD ((((l1.length : Nat) : Int) - 1).toNat) 0).toUInt64))) (W_skip ?_)
      exact ⟨_, _, rfl, h⟩
    ·replace h := bif_f h g28
     refine Vc [] [] (pdigit_j1_E y10_8) (W_exit ?_)
     exact ⟨_, rfl, h⟩
def pdivide_j1_E (a0 : List UInt32) (a1 : List UInt32) (r45 : Int) (r48 : List UInt32 × Nat) (r53 : List UInt32 × Nat) (w10_1 : List UInt32) (i11_1 : Int) (w9_25 : List UInt32) (y12_5 : UInt64) : S := ⟨[(6, kI ((a1.length : Nat) : Int)), (7, kI r45), (8, kH 0), (9, kH 1), (10, kH 2), (11, kI i11_1), (12, kY y12_5)], [], [⟨(.ro true), 55, 1, ((a1.length : Nat) : Int).toNat, .w ((r48.1.drop 0).take (((a1.length : Nat) : Int).toNat))⟩, ⟨.row, 55, 1, r53.2, .w w9_25⟩, ⟨.row, 55, 1, ((((a0.length : Nat) : Int) - ((a1.length : Nat) : Int)) + 1).toNat, .w w10_1⟩]⟩
abbrev pdivide_j1_P (n : Nat) (a0 : List UInt32) (a1 : List UInt32) (r45 : Int) (r48 : List UInt32 × Nat) (r53 : List UInt32 × Nat) (w10_1 : List UInt32) (i11_1 : Int) (k_l1 : (List UInt32) → (List UInt32) → Int → Option (List UInt32 × Nat × List UInt32 × Nat)) (r : List UInt32 × Nat × List UInt32 × Nat) : S → Prop := fun s => ∃ (w9_25 : List UInt32), ∃ (y12_5 : UInt64), s = pdivide_j1_E a0 a1 r45 r48 r53 w10_1 i11_1 w9_25 y12_5 ∧ pdivide_j1 n a0 a1 r45 r48 r53 w10_1 i11_1 k_l1 w9_25 y12_5 = some r
def pdivide_l3_E (a0 : List UInt32) (a1 : List UInt32) (r45 : Int) (r48 : List UInt32 × Nat) (r53 : List UInt32 × Nat) (w10_1 : List UInt32) (i11_1 : Int) (r71_2 : UInt64) (w9_26 : List UInt32) (y18_11 : UInt64) (i131_11 : Int) : S := ⟨[(6, kI ((a1.length : Nat) : Int)), (7, kI r45), (8, kH 0), (9, kH 1), (10, kH 2), (11, kI i11_1), (12, kY (r71_2 - (1 : UInt64))), (18, kY y18_11), (130, kI ((a1.length : Nat) : Int)), (131, kI i131_11)], [], [⟨(.ro true), 55, 1, ((a1.length : Nat) : Int).toNat, .w ((r48.1.drop 0).take (((a1.length : Nat) : Int).toNat))⟩, ⟨.row, 55, 1, r53.2, .w w9_26⟩, ⟨.row, 55, 1, ((((a0.length : Nat) : Int) - ((a1.length : Nat) : Int)) + 1).toNat, .w w10_1⟩]⟩
abbrev pdivide_l3_P (n : Nat) (a0 : List UInt32) (a1 : List UInt32) (r45 : Int) (r48 : List UInt32 × Nat) (r53 : List UInt32 × Nat) (w10_1 : List UInt32) (i11_1 : Int) (r71_2 : UInt64) (k_l1 : (List UInt32) → (List UInt32) → Int → Option (List UInt32 × Nat × List UInt32 × Nat)) (r : List UInt32 × Nat × List UInt32 × Nat) (fu : Nat) : S → Prop := fun s => ∃ (w9_26 : List UInt32), ∃ (y18_11 : UInt64), ∃ (i131_11 : Int), s = pdivide_l3_E a0 a1 r45 r48 r53 w10_1 i11_1 r71_2 w9_26 y18_11 i131_11 ∧ pdivide_l3 n a0 a1 r45 r48 r53 w10_1 i11_1 r71_2 k_l1 fu w9_26 y18_11 i131_11 = some r
def pdivide_l2_E (a0 : List UInt32) (a1 : List UInt32) (r45 : Int) (r48 : List UInt32 × Nat) (r53 : List UInt32 × Nat) (w10_1 : List UInt32) (i11_1 : Int) (r71_2 : UInt64) (w9_23 : List UInt32) (i13_5 : Int) (i73_5 : Int) : S := ⟨[(6, kI ((a1.length : Nat) : Int)), (7, kI r45), (8, kH 0), (9, kH 1), (10, kH 2), (11, kI i11_1), (12, kY r71_2), (13, kI i13_5), (72, kI ((a1.length : Nat) : Int)), (73, kI i73_5)], [], [⟨(.ro true), 55, 1, ((a1.length : Nat) : Int).toNat, .w ((r48.1.drop 0).take (((a1.length : Nat) : Int).toNat))⟩, ⟨.row, 55, 1, r53.2, .w w9_23⟩, ⟨.row, 55, 1, ((((a0.length : Nat) : Int) - ((a1.length : Nat) : Int)) + 1).toNat, .w w10_1⟩]⟩
abbrev pdivide_l2_P (n : Nat) (a0 : List UInt32) (a1 : List UInt32) (r45 : Int) (r48 : List UInt32 × Nat) (r53 : List UInt32 × Nat) (w10_1 : List UInt32) (i11_1 : Int) (r71_2 : UInt64) (k_l1 : (List UInt32) → (List UInt32) → Int → Option (List UInt32 × Nat × List UInt32 × Nat)) (r : List UInt32 × Nat × List UInt32 × Nat) (fu : Nat) : S → Prop := fun s => ∃ (w9_23 : List UInt32), ∃ (i13_5 : Int), ∃ (i73_5 : Int), s = pdivide_l2_E a0 a1 r45 r48 r53 w10_1 i11_1 r71_2 w9_23 i13_5 i73_5 ∧ pdivide_l2 n a0 a1 r45 r48 r53 w10_1 i11_1 r71_2 k_l1 fu w9_23 i13_5 i73_5 = some r
def pdivide_l4_E (a0 : List UInt32) (a1 : List UInt32) (r45 : Int) (r53 : List UInt32 × Nat) (w10_1 : List UInt32) (w9_27 : List UInt32) (i175_1 : Int) : S := ⟨[(6, kI ((a1.length : Nat) : Int)), (7, kI r45), (9, kH 0), (10, kH 1), (174, kI ((a1.length : Nat) : Int)), (175, kI i175_1)], [], [⟨.row, 55, 1, r53.2, .w w9_27⟩, ⟨.row, 55, 1, ((((a0.length : Nat) : Int) - ((a1.length : Nat) : Int)) + 1).toNat, .w w10_1⟩]⟩
abbrev pdivide_l4_P (n : Nat) (a0 : List UInt32) (a1 : List UInt32) (r45 : Int) (r53 : List UInt32 × Nat) (w10_1 : List UInt32) (r : List UInt32 × Nat × List UInt32 × Nat) (fu : Nat) : S → Prop := fun s => ∃ (w9_27 : List UInt32), ∃ (i175_1 : Int), s = pdivide_l4_E a0 a1 r45 r53 w10_1 w9_27 i175_1 ∧ pdivide_l4 n a0 a1 r45 r53 w10_1 fu w9_27 i175_1 = some r
def pdivide_l1_E (a0 : List UInt32) (a1 : List UInt32) (r45 : Int) (r48 : List UInt32 × Nat) (r53 : List UInt32 × Nat) (w9_18 : List UInt32) (w10_1 : List UInt32) (i11_1 : Int) : S := ⟨[(6, kI ((a1.length : Nat) : Int)), (7, kI r45), (8, kH 0), (9, kH 1), (10, kH 2), (11, kI i11_1)], [], [⟨(.ro true), 55, 1, ((a1.length : Nat) : Int).toNat, .w ((r48.1.drop 0).take (((a1.length : Nat) : Int).toNat))⟩, ⟨.row, 55, 1, r53.2, .w w9_18⟩, ⟨.row, 55, 1, ((((a0.length : Nat) : Int) - ((a1.length : Nat) : Int)) + 1).toNat, .w w10_1⟩]⟩
abbrev pdivide_l1_P (n : Nat) (a0 : List UInt32) (a1 : List UInt32) (r45 : Int) (r48 : List UInt32 × Nat) (r53 : List UInt32 × Nat) (r : List UInt32 × Nat × List UInt32 × Nat) (fu : Nat) : S → Prop := fun s => ∃ (w9_18 : List UInt32), ∃ (w10_1 : List UInt32), ∃ (i11_1 : Int), s = pdivide_l1_E a0 a1 r45 r48 r53 w9_18 w10_1 i11_1 ∧ pdivide_l1 n a0 a1 r45 r48 r53 fu w9_18 w10_1 i11_1 = some r
def pdivide_R (r : List UInt32 × Nat × List UInt32 × Nat) : S := ⟨[(4, kH 0), (5, kH 1)], [], [⟨(.ro true), 55, 1, r.2.1, .w r.1⟩, ⟨(.ro true), 55, 1, r.2.2.2, .w r.2.2.1⟩]⟩
def pdivide_ct (n : Nat) (r : List UInt32 × Nat × List UInt32 × Nat) : Ct := ctc (rW 55).rd fun _ l0 => ctc (rW 55).rd fun _ l1 => ct0 fun H => ([pdivide n l0 l1 = some r], shA H.length (.t [.c (.wh 0), .c (.wh 1)]), shH H.length [⟨(.ro true), 55, 1, r.2.1, .w r.1⟩, ⟨(.ro true), 55, 1, r.2.2.2, .w r.2.2.1⟩])
theorem pdivide_ok (n : Nat) (r : List UInt32 × Nat × List UInt32 × Nat) : FnOk Tryd.prog Tr 69 (pdivide_ct n r) := by
 refine fnok Tryd.func69 ?_
 refine HO_c (rW 55) fun l0 _ => HO_c (rW 55) fun l1 _ => HO_0 tabO_da (pdivide_R r) [.tmp 4, .tmp 5] [0, 1] 205 Tryd.func69 fun w hG h => ?_
 unfold pdivide at h
 have hT := tabO_da
 refine Vrs hT [0, 1] ⟨[(0, kH 0), (1, kH 1)], [], [ow 55 l0, ow 55 l1]⟩ ?_
 refine Vrs hT [0, 1] ⟨[(0, kH 0), (1, kH 1), (6, kI ((l1.length : Nat) : Int))], [], [ow 55 l0, ow 55 l1]⟩ ?_
 refine W_seq ?_
 refine W_block ?_
 obtain ⟨r26, g1, h⟩ := bind_some' h
 refine Vgs hT (fT 2 (pCmp_ok n r26) fN) [] [] [0, 1] ⟨[(0, kH 0), (1, kH 1), (6, kI ((l1.length : Nat) : Int)), (23, kB (decide (r26 < (0 : Int))))], [], [ow 55 l0, ow 55 l1]⟩ (aP g1 aN) ?_
 refine Vi ((decide (r26 < (0 : Int)))) (fun g82 => ?_) (fun g82 => ?_)
 ·replace h := bif_t h g82
  obtain ⟨g2, h⟩ := gd_some h
  refine Vgs hT (fT 1 clone_h fN) [] [] [2] ⟨[(4, .c (.nils)), (5, kH 0)], [], [nw 55 l0]⟩ (aP g2 aN) ?_
  refine Vc [.emp 4 55 1 (.w []) true, .vw 5 true] [1, 2] (pdivide_R ([], 0, l0, l0.length)) (W_ret ?_)
  exact ⟨.inl rfl, by cases h; rfl⟩
 ·replace h := bif_f h g82
  refine Vrs hT [0, 1] ⟨[(0, kH 0), (1, kH 1), (6, kI ((l1.length : Nat) : Int)), (30, kB (((l1.length : Nat) : Int) == 1))], [], [ow 55 l0, ow 55 l1]⟩ ?_
  refine Vi ((((l1.length : Nat) : Int) == 1)) (fun g81 => ?_) (fun g81 => ?_)
  ·replace h := bif_t h g81
   obtain ⟨g3, g4, h⟩ := gd2 h
   obtain ⟨r37, g5, h⟩ := bind_some' h
   refine Vgs hT (fT 4 (pshort_ok n r37) fN) [] [] [2, 3] ⟨[(4, kH 0), (5, kH 1)], [], [⟨(.ro true), 55, 1, r37.2.1, .w r37.1⟩, ⟨(.ro true), 55, 1, r37.2.2.2, .w r37.2.2.1⟩]⟩ (aP g3 (aP g4 (aP g5 aN))) ?_
   refine Vc [] [0, 1] (pdivide_R (r37.1, r37.2.1, r37.2.2.1, r37.2.2.2)) (W_ret ?_)
   exact ⟨.inl rfl, by cases h; rfl⟩
  ·replace h := bif_f h g81
   refine W_skip ?_
   obtain ⟨g6, g7, g8, h⟩ := gd3 h
   obtain ⟨r45, g9, h⟩ := bind_some' h
   refine Vgs hT (fT 5 (bclz32_ok n r45) fN) [] [] [0, 1] ⟨[(0, kH 0), (1, kH 1), (6, kI ((l1.length : Nat) : Int)), (7, kI r45)], [], [ow 55 l0, ow 55 l1]⟩ (aP g6 (aP g7 (aP g8 (aP g9 aN)))) ?_
   refine W_seq ?_
   obtain ⟨r48, g10, h⟩ := bind_some' h
   obtain ⟨g11, g12, h⟩ := gd2 h
   obtain ⟨r53, g13, h⟩ := bind_some' h
   refine W_regL hT (fT 2 (pshift_ok n r48) (fT 7 (pshift_ok n r53) fN)) (by kernel_rfl) 7 [3, 4] [] [] [0, 6, 7, 8, 9] [0, 2, 3] (s' := ⟨[(0, kH 0), (6, kI ((l1.length : Nat) : Int)), (7, kI r45), (8, .c (.sl 1 0 (((l1.length : Nat) : Int).toNat))), (9, kH 2)], [], [ow 55 l0, ⟨.row, 55, 1, r48.2, .w r48.1⟩, ⟨.row, 55, 1, r53.2, .w r53.1⟩]⟩) [(0, false), (6, false), (7, false), (50, false), (51, false), (52, false)] [[(0, false), (6, false), (7, false), (48, false), (51, false), (52, false)], [(0, false), (6, false), (7, false), (48, false), (49, false), (51, false), (52, false)]] (by kernel_rfl) ⟨_, (by kernel_rfl), (allP_cons.2 ⟨g10, (allP_cons.2 ⟨g11, (allP_cons.2 ⟨g12, (allP_cons.2 ⟨g13, allP_nil⟩)⟩)⟩)⟩)⟩ (fun sc hsc => match sc, hsc with | 0, _ => ⟨_, (by kernel_rfl), (allP_cons.2 ⟨g10, (allP_cons.2 ⟨g11, (allP_cons.2 ⟨g12, (allP_cons.2 ⟨g13, (allP_cons.2 ⟨g11, (allP_cons.2 ⟨g12, allP_nil⟩)⟩)⟩)⟩)⟩)⟩)⟩ | 1, _ => ⟨_, (by kernel_rfl), (allP_cons.2 ⟨g10, (allP_cons.2 ⟨g11, (allP_cons.2 ⟨g12, (allP_cons.2 ⟨g13, (allP_cons.2 ⟨g11, (allP_cons.2 ⟨g12, allP_nil⟩)⟩)⟩)⟩)⟩)⟩)⟩ | n + 2, h => absurd h (Nat.not_lt.2 (Nat.le_add_left 2 n))) ?_
   obtain ⟨g14, g15, g16, g17, g18, h⟩ := gd5 h
   refine Vgs hT fN [] [] [0, 1, 2, 3] ⟨[(0, kH 0), (6, kI ((l1.length : Nat) : Int)), (7, kI r45), (8, .c (.sl 1 0 (((l1.length : Nat) : Int).toNat))), (9, kH 2), (10, kH 3)], [], [ow 55 l0, ⟨.row, 55, 1, r48.2, .w r48.1⟩, ⟨.row, 55, 1, r53.2, .w r53.1⟩, ⟨.row, 55, 1, ((((l0.length : Nat) : Int) - ((l1.length : Nat) : Int)) + 1).toNat, .w (List.replicate (((((l0.length : Nat) : Int) - ((l1.length : Nat) : Int)) + 1).toNat) 0)⟩]⟩ (aP g14 (aP g15 (aP g16 (aP g17 (aP g18 aN))))) ?_
   refine W_seq ?_
   obtain ⟨g19, h⟩ := gd_some h
   refine Vgs hT fN [] [] [1, 2, 3] ⟨[(6, kI ((l1.length : Nat) : Int)), (7, kI r45), (8, .c (.sl 0 0 (((l1.length : Nat) : Int).toNat))), (9, kH 1), (10, kH 2), (11, kI (((l0.length : Nat) : Int) - ((l1.length : Nat) : Int)))], [], [⟨.row, 55, 1, r48.2, .w r48.1⟩, ⟨.row, 55, 1, r53.2, .w r53.1⟩, ⟨.row, 55, 1, ((((l0.length : Nat) : Int) - ((l1.length : Nat) : Int)) + 1).toNat, .w (List.replicate (((((l0.length : Nat) : Int) - ((l1.length : Nat) : Int)) + 1).toNat) 0)⟩]⟩ (aP g19 aN) ?_
   refine W_block ?_
   refine Vc [.vw 8 true] [3, 1, 2] (pdivide_l1_E l0 l1 r45 r48 r53 r53.1 (List.replicate (((((l0.length : Nat) : Int) - ((l1.length : Nat) : Int)) + 1).toNat) 0) (((l0.length : Nat) : Int) - ((l1.length : Nat) : Int))) (W_lp ((pdivide_l1_P n l0 l1 r45 r48 r53 r)) n ⟨_, _, _, rfl, h⟩ ?_)
   rintro fu_l1 _ ⟨w9_18, w10_1, i11_1, rfl, h⟩
   cases fu_l1 with
   | zero => cases h
   | succ fu_l1 =>
    refine ⟨fu_l1, rfl, ?_⟩
    rw [pdivide_l1] at h
    refine W_seq ?_
    refine Vrs hT [0, 1, 2] ⟨[(6, kI ((l1.length : Nat) : Int)), (7, kI r45), (8, kH 0), (9, kH 1), (10, kH 2), (11, kI i11_1), (65, kB (decide ((0 : Int) ≤ i11_1)))], [], [⟨(.ro true), 55, 1, ((l1.length : Nat) : Int).toNat, .w ((r48.1.drop 0).take (((l1.length : Nat) : Int).toNat))⟩, ⟨.row, 55, 1, r53.2, .w w9_18⟩, ⟨.row, 55, 1, ((((l0.length : Nat) : Int) - ((l1.length : Nat) : Int)) + 1).toNat, .w w10_1⟩]⟩ ?_
    refine Vi ((decide ((0 : Int) ≤ i11_1))) (fun g80 => ?_) (fun g80 => ?_)
    ·replace h := bif_t h g80
     refine W_skip ?_
     refine W_seq ?_
     refine W_block ?_
     obtain ⟨r71_2, g20, h⟩ := bind_some' h
     refine Vgs hT (fT 3 (pdigit_ok n r71_2) fN) [] [] [0, 1, 2] ⟨[(6, kI ((l1.length : Nat) : Int)), (7, kI r45), (8, kH 0), (9, kH 1), (10, kH 2), (11, kI i11_1), (12, kY r71_2)], [], [⟨(.ro true), 55, 1, ((l1.length : Nat) : Int).toNat, .w ((r48.1.drop 0).take (((l1.length : Nat) : Int).toNat))⟩, ⟨.row, 55, 1, r53.2, .w w9_18⟩, ⟨.row, 55, 1, ((((l0.length : Nat) : Int) - ((l1.length : Nat) : Int)) + 1).toNat, .w w10_1⟩]⟩ (aP g20 aN) ?_
     refine Vrs hT [0, 1, 2] ⟨[(6, kI ((l1.length : Nat) : Int)), (7, kI r45), (8, kH 0), (9, kH 1), (10, kH 2), (11, kI i11_1), (12, kY r71_2), (13, kI 0)], [], [⟨(.ro true), 55, 1, ((l1.length : Nat) : Int).toNat, .w ((r48.1.drop 0).take (((l1.length : Nat) : Int).toNat))⟩, ⟨.row, 55, 1, r53.2, .w w9_18⟩, ⟨.row, 55, 1, ((((l0.length : Nat) : Int) - ((l1.length : Nat) : Int)) + 1).toNat, .w w10_1⟩]⟩ ?_
     refine W_seq ?_
     refine Vrs hT [0, 1, 2] ⟨[(6, kI ((l1.length : Nat) : Int)), (7, kI r45), (8, kH 0), (9, kH 1), (10, kH 2), (11, kI i11_1), (12, kY r71_2), (13, kI 0), (72, kI ((l1.length : Nat) : Int)), (73, kI 0)], [], [⟨(.ro true), 55, 1, ((l1.length : Nat) : Int).toNat, .w ((r48.1.drop 0).take (((l1.length : Nat) : Int).toNat))⟩, ⟨.row, 55, 1, r53.2, .w w9_18⟩, ⟨.row, 55, 1, ((((l0.length : Nat) : Int) - ((l1.length : Nat) : Int)) + 1).toNat, .w w10_1⟩]⟩ ?_
     refine W_block ?_
     refine Vc [] [0, 1, 2] (pdivide_l2_E l0 l1 r45 r48 r53 w10_1 i11_1 r71_2 w9_18 0 0) (W_lp ((pdivide_l2_P n l0 l1 r45 r48 r53 w10_1 i11_1 r71_2 (pdivide_l1 n l0 l1 r45 r48 r53 fu_l1) r)) n ⟨_, _, _, rfl, h⟩ ?_)
     rintro fu_l2 _ ⟨w9_23, i13_5, i73_5, rfl, h⟩
     cases fu_l2 with
     | zero => cases h
     | succ fu_l2 =>
      refine ⟨fu_l2, rfl, ?_⟩
      rw [pdivide_l2] at h
      refine Vrs hT [0, 1, 2] ⟨[(6, kI ((l1.length : Nat) : Int)), (7, kI r45), (8, kH 0), (9, kH 1), (10, kH 2), (11, kI i11_1), (12, kY r71_2), (13, kI i13_5), (72, kI ((l1.length : Nat) : Int)), (73, kI i73_5), (74, kB (decide (i73_5 < ((l1.length : Nat) : Int))))], [], [⟨(.ro true), 55, 1, ((l1.length : Nat) : Int).toNat, .w ((r48.1.drop 0).take (((l1.length : Nat) : Int).toNat))⟩, ⟨.row, 55, 1, r53.2, .w w9_23⟩, ⟨.row, 55, 1, ((((l0.length : Nat) : Int) - ((l1.length : Nat) : Int)) + 1).toNat, .w w10_1⟩]⟩ ?_
      refine W_seq ?_
      refine Vi ((decide (i73_5 < ((l1.length : Nat) : Int)))) (fun g63 => ?_) (fun g63 => ?_)
      ·replace h := bif_t h g63
       refine W_skip ?_
       refine W_seq ?_
       refine W_block ?_
       refine Vrs hT [0, 1, 2] ⟨[(6, kI ((l1.length : Nat) : Int)), (7, kI r45), (8, kH 0), (9, kH 1), (10, kH 2), (11, kI i11_1), (12, kY r71_2), (13, kI i13_5), (14, kI i73_5), (72, kI ((l1.length : Nat) : Int)), (73, kI i73_5)], [], [⟨(.ro true), 55, 1, ((l1.length : Nat) : Int).toNat, .w ((r48.1.drop 0).take (((l1.length : Nat) : Int).toNat))⟩, ⟨.row, 55, 1, r53.2, .w w9_23⟩, ⟨.row, 55, 1, ((((l0.length : Nat) : Int) - ((l1.length : Nat) : Int)) + 1).toNat, .w w10_1⟩]⟩ ?_
       obtain ⟨g21, g22, h⟩ := gd2 h
       refine Vgs hT fN [] [] [0, 1, 2] ⟨[(6, kI ((l1.length : Nat) : Int)), (7, kI r45), (8, kH 0), (9, kH 1), (10, kH 2), (11, kI i11_1), (12, kY r71_2), (13, kI i13_5), (14, kI i73_5), (15, kY (r71_2 * ((((r48.1.drop 0).take (((l1.length : Nat) : Int).toNat)).getD i73_5.toNat 0).toUInt64))), (72, kI ((l1.length : Nat) : Int)), (73, kI i73_5)], [], [⟨(.ro true), 55, 1, ((l1.length : Nat) : Int).toNat, .w ((r48.1.drop 0).take (((l1.length : Nat) : Int).toNat))⟩, ⟨.row, 55, 1, r53.2, .w w9_23⟩, ⟨.row, 55, 1, ((((l0.length : Nat) : Int) - ((l1.length : Nat) : Int)) + 1).toNat, .w w10_1⟩]⟩ (aP g21 (aP g22 aN)) ?_
       obtain ⟨g23, g24, g25, g26, g27, h⟩ := gd5 h
       refine Vgs hT fN [] [] [0, 1, 2] ⟨[(6, kI ((l1.length : Nat) : Int)), (7, kI r45), (8, kH 0), (9, kH 1), (10, kH 2), (11, kI i11_1), (12, kY r71_2), (14, kI i73_5), (15, kY (r71_2 * ((((r48.1.drop 0).take (((l1.length : Nat) : Int).toNat)).getD i73_5.toNat 0).toUInt64))), (16, kI (((((w9_23.getD ((i73_5 + i11_1).toNat) 0).toNat : Nat) : Int) - i13_5) - ((((r71_2 * ((((r48.1.drop 0).take (((l1.length : Nat) : Int).toNat)).getD i73_5.toNat 0).toUInt64)).toUInt32).toNat : Nat) : Int))), (72, kI ((l1.length : Nat) : Int)), (73, kI i73_5)], [], [⟨(.ro true), 55, 1, ((l1.length : Nat) : Int).toNat, .w ((r48.1.drop 0).take (((l1.length : Nat) : Int).toNat))⟩, ⟨.row, 55, 1, r53.2, .w w9_23⟩, ⟨.row, 55, 1, ((((l0.length : Nat) : Int) - ((l1.length : Nat) : Int)) + 1).toNat, .w w10_1⟩]⟩ (aP g23 (aP g24 (aP g25 (aP g26 (aP g27 aN))))) ?_
       obtain ⟨g28, g29, g30, g31, g32, h⟩ := gd5 h
       obtain ⟨g33, g34, h⟩ := gd2 h
       refine Vg hT fN [] [] [0, 1, 2] ⟨[(6, kI ((l1.length : Nat) : Int)), (7, kI r45), (8, kH 0), (9, kH 1), (10, kH 2), (11, kI i11_1), (12, kY r71_2), (13, kI ((IntKind.i64.wrap (((shr64 (r71_2 * ((((r48.1.drop 0).take (((l1.length : Nat) : Int).toNat)).getD i73_5.toNat 0).toUInt64)) 32).toNat : Nat) : Int)) - ((((((w9_23.getD ((i73_5 + i11_1).toNat) 0).toNat : Nat) : Int) - i13_5) - ((((r71_2 * ((((r48.1.drop 0).take (((l1.length : Nat) : Int).toNat)).getD i73_5.toNat 0).toUInt64)).toUInt32).toNat : Nat) : Int)) / 2 ^ 32))), (72, kI ((l1.length : Nat) : Int)), (73, kI i73_5)], [], [⟨(.ro true), 55, 1, ((l1.length : Nat) : Int).toNat, .w ((r48.1.drop 0).take (((l1.length : Nat) : Int).toNat))⟩, ⟨.row, 55, 1, r53.2, .w (w9_23.set ((i73_5 + i11_1).toNat) (UInt32.ofInt (((((w9_23.getD ((i73_5 + i11_1).toNat) 0).toNat : Nat) : Int) - i13_5) - ((((r71_2 * ((((r48.1.drop 0).take (((l1.length : Nat) : Int).toNat)).getD i73_5.toNat 0).toUInt64)).toUInt32).toNat : Nat) : Int))))⟩, ⟨.row, 55, 1, ((((l0.length : Nat) : Int) - ((l1.length : Nat) : Int)) + 1).toNat, .w w10_1⟩]⟩ (aP g28 (aP g29 (aP g30 (aP g31 (aP g32 (aP g33 (aP g34 aN))))))) ?_
       obtain ⟨g35, h⟩ := gd_some h
       refine Vg hT fN [] [] [0, 1, 2] (pdivide_l2_E l0 l1 r45 r48 r53 w10_1 i11_1 r71_2 (w9_23.set ((i73_5 + i11_1).toNat) (UInt32.ofInt (((((w9_23.getD ((i73_5 + i11_1).toNat) 0).toNat : Nat) : Int) - i13_5) - ((((r71_2 * ((((r48.1.drop 0).take (((l1.length : Nat) : Int).toNat)).getD i73_5.toNat 0).toUInt64)).toUInt32).toNat : Nat) : Int)))) ((IntKind.i64.wrap (((shr64 (r71_2 * ((((r48.1.drop 0).take (((l1.length : Nat) : Int).toNat)).getD i73_5.toNat 0).toUInt64)) 32).toNat : Nat) : Int)) - ((((((w9_23.getD ((i73_5 + i11_1).toNat) 0).toNat : Nat) : Int) - i13_5) - ((((r71_2 * ((((r48.1.drop 0).take (((l1.length : Nat) : Int).toNat)).getD i73_5.toNat 0).toUInt64)).toUInt32).toNat : Nat) : Int)) / 2 ^ 32)) (i73_5 + 1)) (aP g35 aN) ?_
       exact ⟨_, _, _, rfl, h⟩
      ·replace h := bif_f h g63
       refine Vc [] [0, 1, 2] ⟨[(6, kI ((l1.length : Nat) : Int)), (7, kI r45), (8, kH 0), (9, kH 1), (10, kH 2), (11, kI i11_1), (12, kY r71_2), (13, kI i13_5)], [], [⟨(.ro true), 55, 1, ((l1.length : Nat) : Int).toNat, .w ((r48.1.drop 0).take (((l1.length : Nat) : Int).toNat))⟩, ⟨.row, 55, 1, r53.2, .w w9_23⟩, ⟨.row, 55, 1, ((((l0.length : Nat) : Int) - ((l1.length : Nat) : Int)) + 1).toNat, .w w10_1⟩]⟩ (W_exit ?_)
       obtain ⟨g36, g37, g38, g39, h⟩ := gd4 h
       refine Vgs hT fN [] [] [0, 1, 2] ⟨[(6, kI ((l1.length : Nat) : Int)), (7, kI r45), (8, kH 0), (9, kH 1), (10, kH 2), (11, kI i11_1), (12, kY r71_2), (17, kI ((((w9_23.getD ((i11_1 + ((l1.length : Nat) : Int)).toNat) 0).toNat : Nat) : Int) - i13_5))], [], [⟨(.ro true), 55, 1, ((l1.length : Nat) : Int).toNat, .w ((r48.1.drop 0).take (((l1.length : Nat) : Int).toNat))⟩, ⟨.row, 55, 1, r53.2, .w w9_23⟩, ⟨.row, 55, 1, ((((l0.length : Nat) : Int) - ((l1.length : Nat) : Int)) + 1).toNat, .w w10_1⟩]⟩ (aP g36 (aP g37 (aP g38 (aP g39 aN)))) ?_
       obtain ⟨g40, g41, g42, h⟩ := gd3 h
       refine Vgs hT fN [] [] [0, 1, 2] ⟨[(6, kI ((l1.length : Nat) : Int)), (7, kI r45), (8, kH 0), (9, kH 1), (10, kH 2), (11, kI i11_1), (12, kY r71_2), (17, kI ((((w9_23.getD ((i11_1 + ((l1.length : Nat) : Int)).toNat) 0).toNat : Nat) : Int) - i13_5))], [], [⟨(.ro true), 55, 1, ((l1.length : Nat) : Int).toNat, .w ((r48.1.drop 0).take (((l1.length : Nat) : Int).toNat))⟩, ⟨.row, 55, 1, r53.2, .w (w9_23.set ((i11_1 + ((l1.length : Nat) : Int)).toNat) (UInt32.ofInt ((((w9_23.getD ((i11_1 + ((l1.length : Nat) : Int)).toNat) 0).toNat : Nat) : Int) - i13_5)))⟩, ⟨.row, 55, 1, ((((l0.length : Nat) : Int) - ((l1.length : Nat) : Int)) + 1).toNat, .w w10_1⟩]⟩ (aP g40 (aP g41 (aP g42 aN))) ?_
       refine W_join (pdivide_j1_P n l0 l1 r45 r48 r53 w10_1 i11_1 (pdivide_l1 n l0 l1 r45 r48 r53 fu_l1) r) ?_ ?_
       ·rintro _ ⟨w9_25, y12_5, rfl, h⟩
        unfold pdivide_j1 at h
        obtain ⟨g43, g44, h⟩ := gd2 h
        refine Vg hT fN [] [] [0, 1, 2] ⟨[(6, kI ((l1.length : Nat) : Int)), (7, kI r45), (8, kH 0), (9, kH 1), (10, kH 2), (11, kI i11_1)], [], [⟨(.ro true), 55, 1, ((l1.length : Nat) : Int).toNat, .w ((r48.1.drop 0).take (((l1.length : Nat) : Int).toNat))⟩, ⟨.row, 55, 1, r53.2, .w w9_25⟩, ⟨.row, 55, 1, ((((l0.length : Nat) : Int) - ((l1.length : Nat) : Int)) + 1).toNat, .w (w10_1.set i11_1.toNat y12_5.toUInt32)⟩]⟩ (aP g43 (aP g44 aN)) ?_
        obtain ⟨g45, h⟩ := gd_some h
        refine Vg hT fN [] [] [0, 1, 2] (pdivide_l1_E l0 l1 r45 r48 r53 w9_25 (w10_1.set i11_1.toNat y12_5.toUInt32) (i11_1 - 1)) (aP g45 aN) ?_
        exact ⟨_, _, _, rfl, h⟩
       ·refine W_seq ?_
        refine Vr hT [0, 1, 2] ⟨[(6, kI ((l1.length : Nat) : Int)), (7, kI r45), (8, kH 0), (9, kH 1), (10, kH 2), (11, kI i11_1), (12, kY r71_2), (127, kB (decide (((((w9_23.getD ((i11_1 + ((l1.length : Nat) : Int)).toNat) 0).toNat : Nat) : Int) - i13_5) < (0 : Int))))], [], [⟨(.ro true), 55, 1, ((l1.length : Nat) : Int).toNat, .w ((r48.1.drop 0).take (((l1.length : Nat) : Int).toNat))⟩, ⟨.row, 55, 1, r53.2, .w (w9_23.set ((i11_1 + ((l1.length : Nat) : Int)).toNat) (UInt32.ofInt ((((w9_23.getD ((i11_1 + ((l1.length : Nat) : Int)).toNat) 0).toNat : Nat) : Int) - i13_5)))⟩, ⟨.row, 55, 1, ((((l0.length : Nat) : Int) - ((l1.length : Nat) : Int)) + 1).toNat, .w w10_1⟩]⟩ ?_
        refine Vi ((decide (((((w9_23.getD ((i11_1 + ((l1.length : Nat) : Int)).toNat) 0).toNat : Nat) : Int) - i13_5) < (0 : Int)))) (fun g62 => ?_) (fun g62 => ?_)
        ·replace h := bif_t h g62
         refine Vrs hT [0, 1, 2] ⟨[(6, kI ((l1.length : Nat) : Int)), (7, kI r45), (8, kH 0), (9, kH 1), (10, kH 2), (11, kI i11_1), (12, kY (r71_2 - (1 : UInt64)))], [], [⟨(.ro true), 55, 1, ((l1.length : Nat) : Int).toNat, .w ((r48.1.drop 0).take (((l1.length : Nat) : Int).toNat))⟩, ⟨.row, 55, 1, r53.2, .w (w9_23.set ((i11_1 + ((l1.length : Nat) : Int)).toNat) (UInt32.ofInt ((((w9_23.getD ((i11_1 + ((l1.length : Nat) : Int)).toNat) 0).toNat : Nat) : Int) - i13_5)))⟩, ⟨.row, 55, 1, ((((l0.length : Nat) : Int) - ((l1.length : Nat) : Int)) + 1).toNat, .w w10_1⟩]⟩ ?_
         refine Vrs hT [0, 1, 2] ⟨[(6, kI ((l1.length : Nat) : Int)), (7, kI r45), (8, kH 0), (9, kH 1), (10, kH 2), (11, kI i11_1), (12, kY (r71_2 - (1 : UInt64))), (18, kY 0)], [], [⟨(.ro true), 55, 1, ((l1.length : Nat) : Int).toNat, .w ((r48.1.drop 0).take (((l1.length : Nat) : Int).toNat))⟩, ⟨.row, 55, 1, r53.2, .w (w9_23.set ((i11_1 + ((l1.length : Nat) : Int)).toNat) (UInt32.ofInt ((((w9_23.getD ((i11_1 + ((l1.length : Nat) : Int)).toNat) 0).toNat : Nat) : Int) - i13_5)))⟩, ⟨.row, 55, 1, ((((l0.length : Nat) : Int) - ((l1.length : Nat) : Int)) + 1).toNat, .w w10_1⟩]⟩ ?_
         refine W_seq ?_
         refine Vrs hT [0, 1, 2] ⟨[(6, kI ((l1.length : Nat) : Int)), (7, kI r45), (8, kH 0), (9, kH 1), (10, kH 2), (11, kI i11_1), (12, kY (r71_2 - (1 : UInt64))), (18, kY 0), (130, kI ((l1.length : Nat) : Int)), (131, kI 0)], [], [⟨(.ro true), 55, 1, ((l1.length : Nat) : Int).toNat, .w ((r48.1.drop 0).take (((l1.length : Nat) : Int).toNat))⟩, ⟨.row, 55, 1, r53.2, .w (w9_23.set ((i11_1 + ((l1.length : Nat) : Int)).toNat) (UInt32.ofInt ((((w9_23.getD ((i11_1 + ((l1.length : Nat) : Int)).toNat) 0).toNat : Nat) : Int) - i13_5)))⟩, ⟨.row, 55, 1, ((((l0.length : Nat) : Int) - ((l1.length : Nat) : Int)) + 1).toNat, .w w10_1⟩]⟩ ?_
         refine W_block ?_
         refine Vc [] [0, 1, 2] (pdivide_l3_E l0 l1 r45 r48 r53 w10_1 i11_1 r71_2 (w9_23.set ((i11_1 + ((l1.length : Nat) : Int)).toNat) (UInt32.ofInt ((((w9_23.getD ((i11_1 + ((l1.length : Nat) : Int)).toNat) 0).toNat : Nat) : Int) - i13_5))) 0 0) (W_lp ((pdivide_l3_P n l0 l1 r45 r48 r53 w10_1 i11_1 r71_2 (pdivide_l1 n l0 l1 r45 r48 r53 fu_l1) r)) n ⟨_, _, _, rfl, h⟩ ?_)
         rintro fu_l3 _ ⟨w9_26, y18_11, i131_11, rfl, h⟩
         cases fu_l3 with
         | zero => cases h
         | succ fu_l3 =>
          refine ⟨fu_l3, rfl, ?_⟩
          rw [pdivide_l3] at h
          refine Vrs hT [0, 1, 2] ⟨[(6, kI ((l1.length : Nat) : Int)), (7, kI r45), (8, kH 0), (9, kH 1), (10, kH 2), (11, kI i11_1), (12, kY (r71_2 - (1 : UInt64))), (18, kY y18_11), (130, kI ((l1.length : Nat) : Int)), (131, kI i131_11), (132, kB (decide (i131_11 < ((l1.length : Nat) : Int))))], [], [⟨(.ro true), 55, 1, ((l1.length : Nat) : Int).toNat, .w ((r48.1.drop 0).take (((l1.length : Nat) : Int).toNat))⟩, ⟨.row, 55, 1, r53.2, .w w9_26⟩, ⟨.row, 55, 1, ((((l0.length : Nat) : Int) - ((l1.length : Nat) : Int)) + 1).toNat, .w w10_1⟩]⟩ ?_
          refine W_seq ?_
          refine Vi ((decide (i131_11 < ((l1.length : Nat) : Int)))) (fun g61 => ?_) (fun g61 => ?_)
          ·replace h := bif_t h g61
           refine W_skip ?_
           refine W_seq ?_
           refine W_block ?_
           refine Vrs hT [0, 1, 2] ⟨[(6, kI ((l1.length : Nat) : Int)), (7, kI r45), (8, kH 0), (9, kH 1), (10, kH 2), (11, kI i11_1), (12, kY (r71_2 - (1 : UInt64))), (18, kY y18_11), (19, kI i131_11), (130, kI ((l1.length : Nat) : Int)), (131, kI i131_11)], [], [⟨(.ro true), 55, 1, ((l1.length : Nat) : Int).toNat, .w ((r48.1.drop 0).take (((l1.length : Nat) : Int).toNat))⟩, ⟨.row, 55, 1, r53.2, .w w9_26⟩, ⟨.row, 55, 1, ((((l0.length : Nat) : Int) - ((l1.length : Nat) : Int)) + 1).toNat, .w w10_1⟩]⟩ ?_
           obtain ⟨g46, g47, g48, g49, g50, h⟩ := gd5 h
           refine Vds hT fN 14 [] [(6, false), (7, false), (8, false), (9, false), (10, false), (11, false), (12, false), (18, false), (19, false), (130, false), (131, false), (134, false), (147, false)] [] [0, 1, 2] ⟨[(6, kI ((l1.length : Nat) : Int)), (7, kI r45), (8, kH 0), (9, kH 1), (10, kH 2), (11, kI i11_1), (12, kY (r71_2 - (1 : UInt64))), (18, kY (y18_11 + (((w9_26.getD ((i131_11 + i11_1).toNat) 0).toUInt64) + ((((r48.1.drop 0).take (((l1.length : Nat) : Int).toNat)).getD i131_11.toNat 0).toUInt64)))), (19, kI i131_11), (130, kI ((l1.length : Nat) : Int)), (131, kI i131_11)], [], [⟨(.ro true), 55, 1, ((l1.length : Nat) : Int).toNat, .w ((r48.1.drop 0).take (((l1.length : Nat) : Int).toNat))⟩, ⟨.row, 55, 1, r53.2, .w w9_26⟩, ⟨.row, 55, 1, ((((l0.length : Nat) : Int) - ((l1.length : Nat) : Int)) + 1).toNat, .w w10_1⟩]⟩ (aP g46 (aP g47 (aP g48 (aP g49 (aP g50 aN))))) ?_
           obtain ⟨g51, g52, g53, g54, h⟩ := gd4 h
           refine Vg hT fN [] [] [0, 1, 2] ⟨[(6, kI ((l1.length : Nat) : Int)), (7, kI r45), (8, kH 0), (9, kH 1), (10, kH 2), (11, kI i11_1), (12, kY (r71_2 - (1 : UInt64))), (18, kY (shr64 (y18_11 + (((w9_26.getD ((i131_11 + i11_1).toNat) 0).toUInt64) + ((((r48.1.drop 0).take (((l1.length : Nat) : Int).toNat)).getD i131_11.toNat 0).toUInt64))) 32)), (130, kI ((l1.length : Nat) : Int)), (131, kI i131_11)], [], [⟨(.ro true), 55, 1, ((l1.length : Nat) : Int).toNat, .w ((r48.1.drop 0).take (((l1.length : Nat) : Int).toNat))⟩, ⟨.row, 55, 1, r53.2, .w (w9_26.set ((i131_11 + i11_1).toNat) ((y18_11 + (((w9_26.getD ((i131_11 + i11_1).toNat) 0).toUInt64) + ((((r48.1.drop 0).take (((l1.length : Nat) : Int).toNat)).getD i131_11.toNat 0).toUInt64))).toUInt32))⟩, ⟨.row, 55, 1, ((((l0.length : Nat) : Int) - ((l1.length : Nat) : Int)) + 1).toNat, .w w10_1⟩]⟩ (aP g51 (aP g52 (aP g53 (aP g54 aN)))) ?_
           obtain ⟨g55, h⟩ := gd_some h
           refine Vg hT fN [] [] [0, 1, 2] (pdivide_l3_E l0 l1 r45 r48 r53 w10_1 i11_1 r71_2 (w9_26.set ((i131_11 + i11_1).toNat) ((y18_11 + (((w9_26.getD ((i131_11 + i11_1).toNat) 0).toUInt64) + ((((r48.1.drop 0).take (((l1.length : Nat) : Int).toNat)).getD i131_11.toNat 0).toUInt64))).toUInt32)) (shr64 (y18_11 + (((w9_26.getD ((i131_11 + i11_1).toNat) 0).toUInt64) + ((((r48.1.drop 0).take (((l1.length : Nat) : Int).toNat)).getD i131_11.toNat 0).toUInt64))) 32) (i131_11 + 1)) (aP g55 aN) ?_
           exact ⟨_, _, _, rfl, h⟩
          ·replace h := bif_f h g61
           refine Vc [] [0, 1, 2] ⟨[(6, kI ((l1.length : Nat) : Int)), (7, kI r45), (8, kH 0), (9, kH 1), (10, kH 2), (11, kI i11_1), (12, kY (r71_2 - (1 : UInt64))), (18, kY y18_11)], [], [⟨(.ro true), 55, 1, ((l1.length : Nat) : Int).toNat, .w ((r48.1.drop 0).take (((l1.length : Nat) : Int).toNat))⟩, ⟨.row, 55, 1, r53.2, .w w9_26⟩, ⟨.row, 55, 1, ((((l0.length : Nat) : Int) - ((l1.length : Nat) : Int)) + 1).toNat, .w w10_1⟩]⟩ (W_exit ?_)
           obtain ⟨g56, g57, g58, g59, g60, h⟩ := gd5 h
           refine Vg hT fN [] [] [0, 1, 2] (pdivide_j1_E l0 l1 r45 r48 r53 w10_1 i11_1 (w9_26.set ((i11_1 + ((l1.length : Nat) : Int)).toNat) ((w9_26.getD ((i11_1 + ((l1.length : Nat) : Int)).toNat) 0) + y18_11.toUInt32)) (r71_2 - (1 : UInt64))) (aP g56 (aP g57 (aP g58 (aP g59 (aP g60 aN))))) ?_
           exact ⟨_, _, rfl, h⟩
        ·replace h := bif_f h g62
         refine Vc [] [0, 1, 2] (pdivide_j1_E l0 l1 r45 r48 r53 w10_1 i11_1 (w9_23.set ((i11_1 + ((l1.length : Nat) : Int)).toNat) (UInt32.ofInt ((((w9_23.getD ((i11_1 + ((l1.length : Nat) : Int)).toNat) 0).toNat : Nat) : Int) - i13_5))) r71_2) (W_skip ?_)
         exact ⟨_, _, rfl, h⟩
    ·replace h := bif_f h g80
     refine Vc [] [1, 2] ⟨[(6, kI ((l1.length : Nat) : Int)), (7, kI r45), (9, kH 0), (10, kH 1)], [], [⟨.row, 55, 1, r53.2, .w w9_18⟩, ⟨.row, 55, 1, ((((l0.length : Nat) : Int) - ((l1.length : Nat) : Int)) + 1).toNat, .w w10_1⟩]⟩ (W_exit ?_)
     refine W_seq ?_
     refine Vrs hT [0, 1] ⟨[(6, kI ((l1.length : Nat) : Int)), (7, kI r45), (9, kH 0), (10, kH 1), (174, kI ((l1.length : Nat) : Int)), (175, kI 0)], [], [⟨.row, 55, 1, r53.2, .w w9_18⟩, ⟨.row, 55, 1, ((((l0.length : Nat) : Int) - ((l1.length : Nat) : Int)) + 1).toNat, .w w10_1⟩]⟩ ?_
     refine W_block ?_
     refine Vc [] [0, 1] (pdivide_l4_E l0 l1 r45 r53 w10_1 w9_18 0) (W_lp ((pdivide_l4_P n l0 l1 r45 r53 w10_1 r)) n ⟨_, _, rfl, h⟩ ?_)
     rintro fu_l4 _ ⟨w9_27, i175_1, rfl, h⟩
     cases fu_l4 with
     | zero => cases h
     | succ fu_l4 =>
      refine ⟨fu_l4, rfl, ?_⟩
      rw [pdivide_l4] at h
      refine Vrs hT [0, 1] ⟨[(6, kI ((l1.length : Nat) : Int)), (7, kI r45), (9, kH 0), (10, kH 1), (174, kI ((l1.length : Nat) : Int)), (175, kI i175_1), (176, kB (decide (i175_1 < ((l1.length : Nat) : Int))))], [], [⟨.row, 55, 1, r53.2, .w w9_27⟩, ⟨.row, 55, 1, ((((l0.length : Nat) : Int) - ((l1.length : Nat) : Int)) + 1).toNat, .w w10_1⟩]⟩ ?_
      refine W_seq ?_
      refine Vi ((decide (i175_1 < ((l1.length : Nat) : Int)))) (fun g79 => ?_) (fun g79 => ?_)
      ·replace h := bif_t h g79
       refine W_skip ?_
       refine W_seq ?_
       refine W_block ?_
       refine Vrs hT [0, 1] ⟨[(6, kI ((l1.length : Nat) : Int)), (7, kI r45), (9, kH 0), (10, kH 1), (20, kI i175_1), (174, kI ((l1.length : Nat) : Int)), (175, kI i175_1)], [], [⟨.row, 55, 1, r53.2, .w w9_27⟩, ⟨.row, 55, 1, ((((l0.length : Nat) : Int) - ((l1.length : Nat) : Int)) + 1).toNat, .w w10_1⟩]⟩ ?_
       obtain ⟨g64, g65, g66, g67, g68, h⟩ := gd5 h
       obtain ⟨g69, g70, g71, g72, g73, h⟩ := gd5 h
       refine Vd hT fN 19 [] [(6, false), (7, false), (9, false), (10, false), (174, false), (175, false), (178, false), (179, false), (196, false)] [] [0, 1] ⟨[(6, kI ((l1.length : Nat) : Int)), (7, kI r45), (9, kH 0), (10, kH 1), (174, kI ((l1.length : Nat) : Int)), (175, kI i175_1)], [], [⟨.row, 55, 1, r53.2, .w (w9_27.set i175_1.toNat ((shr32 (w9_27.getD i175_1.toNat 0) r45) ||| ((shl64 ((w9_27.getD ((i175_1 + 1).toNat) 0).toUInt64) (32 - r45)).toUInt32)))⟩, ⟨.row, 55, 1, ((((l0.length : Nat) : Int) - ((l1.length : Nat) : Int)) + 1).toNat, .w w10_1⟩]⟩ (aP g64 (aP g65 (aP g66 (aP g67 (aP g68 (aP g69 (aP g70 (aP g71 (aP g72 (aP g73 aN)))))))))) ?_
       obtain ⟨g74, h⟩ := gd_some h
       refine Vg hT fN [] [] [0, 1] (pdivide_l4_E l0 l1 r45 r53 w10_1 (w9_27.set i175_1.toNat ((shr32 (w9_27.getD i175_1.toNat 0) r45) ||| ((shl64 ((w9_27.getD ((i175_1 + 1).toNat) 0).toUInt64) (32 - r45)).toUInt32))) (i175_1 + 1)) (aP g74 aN) ?_
       exact ⟨_, _, rfl, h⟩
      ·replace h := bif_f h g79
       refine Vc [] [0, 1] ⟨[(6, kI ((l1.length : Nat) : Int)), (9, kH 0), (10, kH 1)], [], [⟨.row, 55, 1, r53.2, .w w9_27⟩, ⟨.row, 55, 1, ((((l0.length : Nat) : Int) - ((l1.length : Nat) : Int)) + 1).toNat, .w w10_1⟩]⟩ (W_exit ?_)
       obtain ⟨r200_1, g75, h⟩ := bind_some' h
       obtain ⟨g76, g77, h⟩ := gd2 h
       obtain ⟨r204_1, g78, h⟩ := bind_some' h
       refine Vds hT (fT 1 (ptrim_ok n r200_1) (fT 5 (ptrim_ok n r204_1) fN)) 5 [] [(200, false), (203, false)] [] [1, 0] ⟨[(4, .c (.sl 0 0 r200_1.2)), (5, .c (.sl 1 0 r204_1.2))], [], [⟨.row, 55, 1, ((((l0.length : Nat) : Int) - ((l1.length : Nat) : Int)) + 1).toNat, .w w10_1⟩, ⟨.row, 55, 1, r53.2, .w w9_27⟩]⟩ (aP g75 (aP g76 (aP g77 (aP g78 aN)))) ?_
       refine Vc [.vw 4 true, .vw 5 true] [2, 3] (pdivide_R (((w10_1.drop 0).take r200_1.2), r200_1.2, ((w9_27.drop 0).take r204_1.2), r204_1.2)) (W_ret ?_)
       exact ⟨.inl rfl, by cases h; rfl⟩
def ptimes_l2_E (a0 : List UInt32) (a1 : List UInt32) (i19_2 : Int) (w5_11 : List UInt32) (y8_8 : UInt64) (i26_8 : Int) : S := ⟨[(1, kH 0), (5, kH 1), (6, kI i19_2), (7, kX (a0.getD i19_2.toNat 0)), (8, kY y8_8), (17, kH 2), (18, kI ((a0.length : Nat) : Int)), (19, kI i19_2), (24, kH 0), (25, kI ((a1.length : Nat) : Int)), (26, kI i26_8)], [], [ow 55 a1, ⟨.row, 55, 1, (((a0.length : Nat) : Int) + ((a1.length : Nat) : Int)).toNat, .w w5_11⟩, ow 55 a0]⟩
abbrev ptimes_l2_P (n : Nat) (a0 : List UInt32) (a1 : List UInt32) (i19_2 : Int) (k_l1 : (List UInt32) → Int → Option (List UInt32 × Nat)) (r : List UInt32 × Nat) (fu : Nat) : S → Prop := fun s => ∃ (w5_11 : List UInt32), ∃ (y8_8 : UInt64), ∃ (i26_8 : Int), s = ptimes_l2_E a0 a1 i19_2 w5_11 y8_8 i26_8 ∧ ptimes_l2 n a0 a1 i19_2 k_l1 fu w5_11 y8_8 i26_8 = some r
def ptimes_l1_E (a0 : List UInt32) (a1 : List UInt32) (w5_9 : List UInt32) (i19_2 : Int) : S := ⟨[(1, kH 0), (5, kH 1), (17, kH 2), (18, kI ((a0.length : Nat) : Int)), (19, kI i19_2)], [], [ow 55 a1, ⟨.row, 55, 1, (((a0.length : Nat) : Int) + ((a1.length : Nat) : Int)).toNat, .w w5_9⟩, ow 55 a0]⟩
abbrev ptimes_l1_P (n : Nat) (a0 : List UInt32) (a1 : List UInt32) (r : List UInt32 × Nat) (fu : Nat) : S → Prop := fun s => ∃ (w5_9 : List UInt32), ∃ (i19_2 : Int), s = ptimes_l1_E a0 a1 w5_9 i19_2 ∧ ptimes_l1 n a0 a1 fu w5_9 i19_2 = some r
def ptimes_R (r : List UInt32 × Nat) : S := ⟨[(4, kH 0)], [], [⟨(.ro true), 55, 1, r.2, .w r.1⟩]⟩
def ptimes_ct (n : Nat) (r : List UInt32 × Nat) : Ct := ctc (rW 55).rd fun _ l0 => ctc (rW 55).rd fun _ l1 => ct0 fun H => ([ptimes n l0 l1 = some r], shA H.length (kH 0), shH H.length [⟨(.ro true), 55, 1, r.2, .w r.1⟩])
theorem ptimes_ok (n : Nat) (r : List UInt32 × Nat) : FnOk Tryd.prog Tr 68 (ptimes_ct n r) := by
 refine fnok Tryd.func68 ?_
 refine HO_c (rW 55) fun l0 _ => HO_c (rW 55) fun l1 _ => HO_0 tabO_da (ptimes_R r) [.tmp 4] [0] 67 Tryd.func68 fun w hG h => ?_
 unfold ptimes at h
 have hT := tabO_da
 refine Vrs hT [0, 1] ⟨[(0, kH 0), (1, kH 1)], [], [ow 55 l0, ow 55 l1]⟩ ?_
 obtain ⟨g1, g2, g3, g4, h⟩ := gd4 h
 refine Vgs hT fN [] [] [0, 1, 2] ⟨[(0, kH 0), (1, kH 1), (5, kH 2)], [], [ow 55 l0, ow 55 l1, ⟨.row, 55, 1, (((l0.length : Nat) : Int) + ((l1.length : Nat) : Int)).toNat, .w (List.replicate ((((l0.length : Nat) : Int) + ((l1.length : Nat) : Int)).toNat) 0)⟩]⟩ (aP g1 (aP g2 (aP g3 (aP g4 aN)))) ?_
 refine W_seq ?_
 refine Vrs hT [1, 2, 0] ⟨[(1, kH 0), (5, kH 1), (17, kH 2), (18, kI ((l0.length : Nat) : Int)), (19, kI 0)], [], [ow 55 l1, ⟨.row, 55, 1, (((l0.length : Nat) : Int) + ((l1.length : Nat) : Int)).toNat, .w (List.replicate ((((l0.length : Nat) : Int) + ((l1.length : Nat) : Int)).toNat) 0)⟩, ow 55 l0]⟩ ?_
 refine W_block ?_
 refine Vc [] [0, 1, 2] (ptimes_l1_E l0 l1 (List.replicate ((((l0.length : Nat) : Int) + ((l1.length : Nat) : Int)).toNat) 0) 0) (W_lp ((ptimes_l1_P n l0 l1 r)) n ⟨_, _, rfl, h⟩ ?_)
 rintro fu_l1 _ ⟨w5_9, i19_2, rfl, h⟩
 cases fu_l1 with
 | zero => cases h
 | succ fu_l1 =>
  refine ⟨fu_l1, rfl, ?_⟩
  rw [ptimes_l1] at h
  refine Vrs hT [0, 1, 2] ⟨[(1, kH 0), (5, kH 1), (17, kH 2), (18, kI ((l0.length : Nat) : Int)), (19, kI i19_2), (20, kB (decide (i19_2 < ((l0.length : Nat) : Int))))], [], [ow 55 l1, ⟨.row, 55, 1, (((l0.length : Nat) : Int) + ((l1.length : Nat) : Int)).toNat, .w w5_9⟩, ow 55 l0]⟩ ?_
  refine W_seq ?_
  refine Vi ((decide (i19_2 < ((l0.length : Nat) : Int)))) (fun g23 => ?_) (fun g23 => ?_)
  ·replace h := bif_t h g23
   refine W_skip ?_
   refine W_seq ?_
   refine W_block ?_
   obtain ⟨g5, g6, h⟩ := gd2 h
   refine Vgs hT fN [] [] [0, 1, 2] ⟨[(1, kH 0), (5, kH 1), (6, kI i19_2), (7, kX (l0.getD i19_2.toNat 0)), (17, kH 2), (18, kI ((l0.length : Nat) : Int)), (19, kI i19_2)], [], [ow 55 l1, ⟨.row, 55, 1, (((l0.length : Nat) : Int) + ((l1.length : Nat) : Int)).toNat, .w w5_9⟩, ow 55 l0]⟩ (aP g5 (aP g6 aN)) ?_
   refine Vrs hT [0, 1, 2] ⟨[(1, kH 0), (5, kH 1), (6, kI i19_2), (7, kX (l0.getD i19_2.toNat 0)), (8, kY 0), (17, kH 2), (18, kI ((l0.length : Nat) : Int)), (19, kI i19_2)], [], [ow 55 l1, ⟨.row, 55, 1, (((l0.length : Nat) : Int) + ((l1.length : Nat) : Int)).toNat, .w w5_9⟩, ow 55 l0]⟩ ?_
   refine W_seq ?_
   refine Vrs hT [0, 1, 2] ⟨[(1, kH 0), (5, kH 1), (6, kI i19_2), (7, kX (l0.getD i19_2.toNat 0)), (8, kY 0), (17, kH 2), (18, kI ((l0.length : Nat) : Int)), (19, kI i19_2), (24, kH 0), (25, kI ((l1.length : Nat) : Int)), (26, kI 0)], [], [ow 55 l1, ⟨.row, 55, 1, (((l0.length : Nat) : Int) + ((l1.length : Nat) : Int)).toNat, .w w5_9⟩, ow 55 l0]⟩ ?_
   refine W_block ?_
   refine Vc [] [0, 1, 2] (ptimes_l2_E l0 l1 i19_2 w5_9 0 0) (W_lp ((ptimes_l2_P n l0 l1 i19_2 (ptimes_l1 n l0 l1 fu_l1) r)) n ⟨_, _, _, rfl, h⟩ ?_)
   rintro fu_l2 _ ⟨w5_11, y8_8, i26_8, rfl, h⟩
   cases fu_l2 with
   | zero => cases h
   | succ fu_l2 =>
    refine ⟨fu_l2, rfl, ?_⟩
    rw [ptimes_l2] at h
    refine Vrs hT [0, 1, 2] ⟨[(1, kH 0), (5, kH 1), (6, kI i19_2), (7, kX (l0.getD i19_2.toNat 0)), (8, kY y8_8), (17, kH 2), (18, kI ((l0.length : Nat) : Int)), (19, kI i19_2), (24, kH 0), (25, kI ((l1.length : Nat) : Int)), (26, kI i26_8), (27, kB (decide (i26_8 < ((l1.length : Nat) : Int))))], [], [ow 55 l1, ⟨.row, 55, 1, (((l0.length : Nat) : Int) + ((l1.length : Nat) : Int)).toNat, .w w5_11⟩, ow 55 l0]⟩ ?_
    refine W_seq ?_
    refine Vi ((decide (i26_8 < ((l1.length : Nat) : Int)))) (fun g21 => ?_) (fun g21 => ?_)
    ·replace h := bif_t h g21
     refine W_skip ?_
     refine W_seq ?_
     refine W_block ?_
     obtain ⟨g7, g8, h⟩ := gd2 h
     refine Vgs hT fN [] [] [0, 1, 2] ⟨[(1, kH 0), (5, kH 1), (6, kI i19_2), (7, kX (l0.getD i19_2.toNat 0)), (8, kY y8_8), (9, kI i26_8), (10, kX (l1.getD i26_8.toNat 0)), (17, kH 2), (18, kI ((l0.length : Nat) : Int)), (19, kI i19_2), (24, kH 0), (25, kI ((l1.length : Nat) : Int)), (26, kI i26_8)], [], [ow 55 l1, ⟨.row, 55, 1, (((l0.length : Nat) : Int) + ((l1.length : Nat) : Int)).toNat, .w w5_11⟩, ow 55 l0]⟩ (aP g7 (aP g8 aN)) ?_
     obtain ⟨g9, g10, g11, h⟩ := gd3 h
     refine Vgs hT fN [] [] [0, 1, 2] ⟨[(1, kH 0), (5, kH 1), (6, kI i19_2), (7, kX (l0.getD i19_2.toNat 0)), (8, kY (y8_8 + ((((l0.getD i19_2.toNat 0).toUInt64) * ((l1.getD i26_8.toNat 0).toUInt64)) + ((w5_11.getD ((i19_2 + i26_8).toNat) 0).toUInt64)))), (9, kI i26_8), (17, kH 2), (18, kI ((l0.length : Nat) : Int)), (19, kI i19_2), (24, kH 0), (25, kI ((l1.length : Nat) : Int)), (26, kI i26_8)], [], [ow 55 l1, ⟨.row, 55, 1, (((l0.length : Nat) : Int) + ((l1.length : Nat) : Int)).toNat, .w w5_11⟩, ow 55 l0]⟩ (aP g9 (aP g10 (aP g11 aN))) ?_
     obtain ⟨g12, g13, g14, g15, h⟩ := gd4 h
     refine Vg hT fN [] [] [0, 1, 2] ⟨[(1, kH 0), (5, kH 1), (6, kI i19_2), (7, kX (l0.getD i19_2.toNat 0)), (8, kY (shr64 (y8_8 + ((((l0.getD i19_2.toNat 0).toUInt64) * ((l1.getD i26_8.toNat 0).toUInt64)) + ((w5_11.getD ((i19_2 + i26_8).toNat) 0).toUInt64))) 32)), (17, kH 2), (18, kI ((l0.length : Nat) : Int)), (19, kI i19_2), (24, kH 0), (25, kI ((l1.length : Nat) : Int)), (26, kI i26_8)], [], [ow 55 l1, ⟨.row, 55, 1, (((l0.length : Nat) : Int) + ((l1.length : Nat) : Int)).toNat, .w (w5_11.set ((i19_2 + i26_8).toNat) ((y8_8 + ((((l0.getD i19_2.toNat 0).toUInt64) * ((l1.getD i26_8.toNat 0).toUInt64)) + ((w5_11.getD ((i19_2 + i26_8).toNat) 0).toUInt64))).toUInt32))⟩, ow 55 l0]⟩ (aP g12 (aP g13 (aP g14 (aP g15 aN)))) ?_
     obtain ⟨g16, h⟩ := gd_some h
     refine Vg hT fN [] [] [0, 1, 2] (ptimes_l2_E l0 l1 i19_2 (w5_11.set ((i19_2 + i26_8).toNat) ((y8_8 + ((((l0.getD i19_2.toNat 0).toUInt64) * ((l1.getD i26_8.toNat 0).toUInt64)) + ((w5_11.getD ((i19_2 + i26_8).toNat) 0).toUInt64))).toUInt32)) (shr64 (y8_8 + ((((l0.getD i19_2.toNat 0).toUInt64) * ((l1.getD i26_8.toNat 0).toUInt64)) + ((w5_11.getD ((i19_2 + i26_8).toNat) 0).toUInt64))) 32) (i26_8 + 1)) (aP g16 aN) ?_
     exact ⟨_, _, _, rfl, h⟩
    ·replace h := bif_f h g21
     refine Vc [] [0, 1, 2] ⟨[(1, kH 0), (5, kH 1), (6, kI i19_2), (8, kY y8_8), (17, kH 2), (18, kI ((l0.length : Nat) : Int)), (19, kI i19_2)], [], [ow 55 l1, ⟨.row, 55, 1, (((l0.length : Nat) : Int) + ((l1.length : Nat) : Int)).toNat, .w w5_11⟩, ow 55 l0]⟩ (W_exit ?_)
     obtain ⟨g17, g18, g19, h⟩ := gd3 h
     refine Vg hT fN [] [] [0, 1, 2] ⟨[(1, kH 0), (5, kH 1), (17, kH 2), (18, kI ((l0.length : Nat) : Int)), (19, kI i19_2)], [], [ow 55 l1, ⟨.row, 55, 1, (((l0.length : Nat) : Int) + ((l1.length : Nat) : Int)).toNat, .w (w5_11.set ((i19_2 + ((l1.length : Nat) : Int)).toNat) y8_8.toUInt32)⟩, ow 55 l0]⟩ (aP g17 (aP g18 (aP g19 aN))) ?_
     obtain ⟨g20, h⟩ := gd_some h
     refine Vg hT fN [] [] [0, 1, 2] (ptimes_l1_E l0 l1 (w5_11.set ((i19_2 + ((l1.length : Nat) : Int)).toNat) y8_8.toUInt32) (i19_2 + 1)) (aP g20 aN) ?_
     exact ⟨_, _, rfl, h⟩
  ·replace h := bif_f h g23
   refine Vc [] [1] ⟨[(5, kH 0)], [], [⟨.row, 55, 1, (((l0.length : Nat) : Int) + ((l1.length : Nat) : Int)).toNat, .w w5_9⟩]⟩ (W_exit ?_)
   obtain ⟨r66_2, g22, h⟩ := bind_some' h
   refine Vgs hT (fT 1 (ptrim_ok n r66_2) fN) [] [] [0] ⟨[(4, .c (.sl 0 0 r66_2.2))], [], [⟨.row, 55, 1, (((l0.length : Nat) : Int) + ((l1.length : Nat) : Int)).toNat, .w w5_9⟩]⟩ (aP g22 aN) ?_
   refine Vc [.vw 4 true] [1] (ptimes_R (((w5_9.drop 0).take r66_2.2), r66_2.2)) (W_ret ?_)
   exact ⟨.inl rfl, by cases h; rfl⟩
def prest_R (r : List UInt32 × Nat) : S := ⟨[(6, kH 0)], [], [⟨(.ro true), 55, 1, r.2, .w r.1⟩]⟩
def prest_ct (n : Nat) (r : List UInt32 × Nat) : Ct := ctc (rW 55).rd fun _ l0 => ctc (rW 55).rd fun _ l1 => ctc (rW 55).rd fun _ l2 => ct0 fun H => ([prest n l0 l1 l2 = some r], shA H.length (kH 0), shH H.length [⟨(.ro true), 55, 1, r.2, .w r.1⟩])
theorem prest_ok (n : Nat) (r : List UInt32 × Nat) : FnOk Tryd.prog Tr 71 (prest_ct n r) := by
 refine fnok Tryd.func71 ?_
 refine HO_c (rW 55) fun l0 _ => HO_c (rW 55) fun l1 _ => HO_c (rW 55) fun l2 _ => HO_0 tabO_da (prest_R r) [.tmp 6] [0] 18 Tryd.func71 fun w hG h => ?_
 unfold prest at h
 have hT := tabO_da
 refine Vrs hT [0, 1, 2] ⟨[(0, kH 0), (1, kH 1), (2, kH 2)], [], [ow 55 l0, ow 55 l1, ow 55 l2]⟩ ?_
 obtain ⟨r12, g1, h⟩ := bind_some' h
 obtain ⟨r14, g2, h⟩ := bind_some' h
 refine Vgs hT (fT 2 (ptimes_ok n r12) (fT 4 (pdivide_ok n r14) fN)) [] [] [5] ⟨[(8, kH 0)], [], [⟨(.ro true), 55, 1, r14.2.2.2, .w r14.2.2.1⟩]⟩ (aP g1 (aP g2 aN)) ?_
 refine Vrs hT [0] ⟨[(6, kH 0)], [], [⟨(.ro true), 55, 1, r14.2.2.2, .w r14.2.2.1⟩]⟩ ?_
 refine Vc [] [0] (prest_R (r14.2.2.1, r14.2.2.2)) (W_ret ?_)
 exact ⟨.inl rfl, by cases h; rfl⟩
def pExp_j1_E (r17 : List UInt32 × Nat × List UInt32 × Nat × Bool) (r23 : List UInt32 × Nat × List UInt32 × Nat × Bool) (i13_1 : Int) (w12_7 : List UInt32) (m12_7 : Nat) : S := ⟨[(0, kH 0), (1, kH 1), (2, kH 2), (12, kH 3), (13, kI i13_1)], [], [⟨(.ro false), 55, 1, r17.2.1, .w r17.1⟩, ⟨(.ro false), 55, 1, r17.2.2.2.1, .w r17.2.2.1⟩, ⟨(.ro false), 55, 1, r23.2.1, .w r23.1⟩, ⟨(.ro true), 55, 1, m12_7, .w w12_7⟩]⟩
abbrev pExp_j1_P (n : Nat) (r17 : List UInt32 × Nat × List UInt32 × Nat × Bool) (r23 : List UInt32 × Nat × List UInt32 × Nat × Bool) (i13_1 : Int) (k_l1 : (List UInt32) → Nat → Int → Option (List UInt32 × Option Int)) (r : List UInt32 × Option Int) : S → Prop := fun s => ∃ (w12_7 : List UInt32), ∃ (m12_7 : Nat), s = pExp_j1_E r17 r23 i13_1 w12_7 m12_7 ∧ pExp_j1 n r17 r23 i13_1 k_l1 w12_7 m12_7 = some r
def pExp_l1_E (r17 : List UInt32 × Nat × List UInt32 × Nat × Bool) (r23 : List UInt32 × Nat × List UInt32 × Nat × Bool) (w12_5 : List UInt32) (m12_5 : Nat) (i13_1 : Int) : S := ⟨[(0, kH 0), (1, kH 1), (2, kH 2), (12, kH 3), (13, kI i13_1)], [], [⟨(.ro false), 55, 1, r17.2.1, .w r17.1⟩, ⟨(.ro false), 55, 1, r17.2.2.2.1, .w r17.2.2.1⟩, ⟨(.ro false), 55, 1, r23.2.1, .w r23.1⟩, ⟨(.ro true), 55, 1, m12_5, .w w12_5⟩]⟩
abbrev pExp_l1_P (n : Nat) (r17 : List UInt32 × Nat × List UInt32 × Nat × Bool) (r23 : List UInt32 × Nat × List UInt32 × Nat × Bool) (r : List UInt32 × Option Int) (fu : Nat) : S → Prop := fun s => ∃ (w12_5 : List UInt32), ∃ (m12_5 : Nat), ∃ (i13_1 : Int), s = pExp_l1_E r17 r23 w12_5 m12_5 i13_1 ∧ pExp_l1 n r17 r23 fu w12_5 m12_5 i13_1 = some r
def pExp_R (r : List UInt32 × Option Int) : S := ⟨[(6, kH 0), (7, kE 34 r.2)], [], [nw 55 r.1]⟩
def pExp_ct (n : Nat) (r : List UInt32 × Option Int) : Ct := ctc (rW 55).rd fun _ l0 => ctc (rW 55).rd fun _ l1 => ctc (rW 55).rd fun _ l2 => ct0 fun H => ([pExp n l0 l1 l2 = some r], shA H.length (.t [.c (.wh 0), .c (.s (.er 34 .i64 r.2))]), shH H.length [nw 55 r.1])
theorem pExp_ok (n : Nat) (r : List UInt32 × Option Int) : FnOk Tryd.prog Tr 50 (pExp_ct n r) := by
 refine fnok Tryd.func50 ?_
 refine HO_c (rW 55) fun l0 _ => HO_c (rW 55) fun l1 _ => HO_c (rW 55) fun l2 _ => HO_0 tabO_da (pExp_R r) [.tmp 6, .tmp 7] [0] 74 Tryd.func50 fun w hG h => ?_
 unfold pExp at h
 have hT := tabO_da
 refine Vrs hT [0, 1, 2] ⟨[(0, kH 0), (1, kH 1), (2, kH 2)], [], [ow 55 l0, ow 55 l1, ow 55 l2]⟩ ?_
 obtain ⟨r17, g1, h⟩ := bind_some' h
 refine Vgs hT (fT 2 (pmay_ok n r17) fN) [] [] [3, 4, 2] ⟨[(0, kH 0), (1, kH 1), (2, kH 2), (8, kB r17.2.2.2.2)], [], [⟨(.ro false), 55, 1, r17.2.1, .w r17.1⟩, ⟨(.ro false), 55, 1, r17.2.2.2.1, .w r17.2.2.1⟩, ow 55 l2]⟩ (aP g1 aN) ?_
 obtain ⟨r23, g2, h⟩ := bind_some' h
 refine Vgs hT (fT 1 (pmay_ok n r23) fN) [] [] [0, 1, 3] ⟨[(0, kH 0), (1, kH 1), (2, kH 2), (8, kB r17.2.2.2.2), (10, kB r23.2.2.2.2)], [], [⟨(.ro false), 55, 1, r17.2.1, .w r17.1⟩, ⟨(.ro false), 55, 1, r17.2.2.2.1, .w r17.2.2.1⟩, ⟨(.ro false), 55, 1, r23.2.1, .w r23.1⟩]⟩ (aP g2 aN) ?_
 refine W_seq ?_
 refine W_block ?_
 refine W_seq ?_
 rcases Bool.eq_false_or_eq_true (!r17.2.2.2.2) with g3 | g3
 ·replace h := bif_t h g3
  refine Vg hT fN [(2, true)] [] [0, 1, 2] ⟨[(0, kH 0), (1, kH 1), (2, kH 2), (27, kB true)], [], [⟨(.ro false), 55, 1, r17.2.1, .w r17.1⟩, ⟨(.ro false), 55, 1, r17.2.2.2.1, .w r17.2.2.1⟩, ⟨(.ro false), 55, 1, r23.2.1, .w r23.1⟩]⟩ (aP g3 aN) ?_
  refine Vi (true) (fun _ => ?_) (fun hb => by cases hb)
  refine Vrs hT [] ⟨[(6, .c (.nils)), (7, kE 34 (some 4))], [], []⟩ ?_
  refine Vc [.nil 6 55 1 (.w [])] [0] (pExp_R ([], (some 4))) (W_ret ?_)
  exact ⟨.inl rfl, by cases h; rfl⟩
 ·replace h := bif_f h g3
  refine Vg hT fN [(2, false)] [] [0, 1, 2] ⟨[(0, kH 0), (1, kH 1), (2, kH 2), (27, kB (!r23.2.2.2.2))], [], [⟨(.ro false), 55, 1, r17.2.1, .w r17.1⟩, ⟨(.ro false), 55, 1, r17.2.2.2.1, .w r17.2.2.1⟩, ⟨(.ro false), 55, 1, r23.2.1, .w r23.1⟩]⟩ (aP g3 aN) ?_
  refine Vi ((!r23.2.2.2.2)) (fun g20 => ?_) (fun g20 => ?_)
  ·replace h := bif_t h g20
   refine Vrs hT [] ⟨[(6, .c (.nils)), (7, kE 34 (some 4))], [], []⟩ ?_
   refine Vc [.nil 6 55 1 (.w [])] [0] (pExp_R ([], (some 4))) (W_ret ?_)
   exact ⟨.inl rfl, by cases h; rfl⟩
  ·replace h := bif_f h g20
   refine Vrs hT [0, 1, 2] ⟨[(0, kH 0), (1, kH 1), (2, kH 2), (35, kB (((r23.2.1 : Nat) : Int) == 0))], [], [⟨(.ro false), 55, 1, r17.2.1, .w r17.1⟩, ⟨(.ro false), 55, 1, r17.2.2.2.1, .w r17.2.2.1⟩, ⟨(.ro false), 55, 1, r23.2.1, .w r23.1⟩]⟩ ?_
   refine Vi ((((r23.2.1 : Nat) : Int) == 0)) (fun g19 => ?_) (fun g19 => ?_)
   ·replace h := bif_t h g19
    refine Vrs hT [] ⟨[(6, .c (.nils)), (7, kE 34 (some 1))], [], []⟩ ?_
    refine Vc [.nil 6 55 1 (.w [])] [0] (pExp_R ([], (some 1))) (W_ret ?_)
    exact ⟨.inl rfl, by cases h; rfl⟩
   ·replace h := bif_f h g19
    refine W_skip ?_
    obtain ⟨r43, g4, h⟩ := bind_some' h
    refine Vgs hT (fT 2 (pdivide_ok n r43) fN) [] [] [0, 1, 2, 5] ⟨[(0, kH 0), (1, kH 1), (2, kH 2), (12, kH 3)], [], [⟨(.ro false), 55, 1, r17.2.1, .w r17.1⟩, ⟨(.ro false), 55, 1, r17.2.2.2.1, .w r17.2.2.1⟩, ⟨(.ro false), 55, 1, r23.2.1, .w r23.1⟩, ⟨(.ro true), 55, 1, r43.2.2.2, .w r43.2.2.1⟩]⟩ (aP g4 aN) ?_
    refine W_seq ?_
    obtain ⟨g5, g6, h⟩ := gd2 h
    refine Vgs hT fN [] [] [0, 1, 2, 3] ⟨[(0, kH 0), (1, kH 1), (2, kH 2), (12, kH 3), (13, kI ((32 * ((r17.2.2.2.1 : Nat) : Int)) - 1))], [], [⟨(.ro false), 55, 1, r17.2.1, .w r17.1⟩, ⟨(.ro false), 55, 1, r17.2.2.2.1, .w r17.2.2.1⟩, ⟨(.ro false), 55, 1, r23.2.1, .w r23.1⟩, ⟨(.ro true), 55, 1, r43.2.2.2, .w r43.2.2.1⟩]⟩ (aP g5 (aP g6 aN)) ?_
    refine W_block ?_
    refine Vc [] [0, 1, 2, 3] (pExp_l1_E r17 r23 r43.2.2.1 r43.2.2.2 ((32 * ((r17.2.2.2.1 : Nat) : Int)) - 1)) (W_lp ((pExp_l1_P n r17 r23 r)) n ⟨_, _, _, rfl, h⟩ ?_)
    rintro fu_l1 _ ⟨w12_5, m12_5, i13_1, rfl, h⟩
    cases fu_l1 with
    | zero => cases h
    | succ fu_l1 =>
     refine ⟨fu_l1, rfl, ?_⟩
     rw [pExp_l1] at h
     refine W_seq ?_
     refine Vrs hT [0, 1, 2, 3] ⟨[(0, kH 0), (1, kH 1), (2, kH 2), (12, kH 3), (13, kI i13_1), (51, kB (decide ((0 : Int) ≤ i13_1)))], [], [⟨(.ro false), 55, 1, r17.2.1, .w r17.1⟩, ⟨(.ro false), 55, 1, r17.2.2.2.1, .w r17.2.2.1⟩, ⟨(.ro false), 55, 1, r23.2.1, .w r23.1⟩, ⟨(.ro true), 55, 1, m12_5, .w w12_5⟩]⟩ ?_
     refine Vi ((decide ((0 : Int) ≤ i13_1))) (fun g18 => ?_) (fun g18 => ?_)
     ·replace h := bif_t h g18
      refine Vc [] [0, 1, 2, 3] ⟨[(0, kH 0), (1, kH 1), (2, kH 2), (12, kH 3), (13, kI i13_1)], [], [⟨(.ro false), 55, 1, r17.2.1, .w r17.1⟩, ⟨(.ro false), 55, 1, r17.2.2.2.1, .w r17.2.2.1⟩, ⟨(.ro false), 55, 1, r23.2.1, .w r23.1⟩, ⟨(.ro true), 55, 1, m12_5, .w w12_5⟩]⟩ (W_skip ?_)
      refine W_join (pExp_j1_P n r17 r23 i13_1 (pExp_l1 n r17 r23 fu_l1) r) ?_ ?_
      ·rintro _ ⟨w12_7, m12_7, rfl, h⟩
       unfold pExp_j1 at h
       obtain ⟨g7, h⟩ := gd_some h
       refine Vg hT fN [] [] [0, 1, 2, 3] (pExp_l1_E r17 r23 w12_7 m12_7 (i13_1 - 1)) (aP g7 aN) ?_
       exact ⟨_, _, _, rfl, h⟩
      ·refine W_block ?_
       obtain ⟨r57_2, g8, h⟩ := bind_some' h
       refine Vgs hT (fT 3 (prest_ok n r57_2) fN) [] [] [0, 1, 2, 4] ⟨[(0, kH 0), (1, kH 1), (2, kH 2), (12, kH 3), (13, kI i13_1)], [], [⟨(.ro false), 55, 1, r17.2.1, .w r17.1⟩, ⟨(.ro false), 55, 1, r17.2.2.2.1, .w r17.2.2.1⟩, ⟨(.ro false), 55, 1, r23.2.1, .w r23.1⟩, ⟨(.ro true), 55, 1, r57_2.2, .w r57_2.1⟩]⟩ (aP g8 aN) ?_
       obtain ⟨g9, g10, g11, g12, g13, h⟩ := gd5 h
       obtain ⟨g14, h⟩ := gd_some h
       refine Vgs hT fN [] [] [0, 1, 2, 3] ⟨[(0, kH 0), (1, kH 1), (2, kH 2), (12, kH 3), (13, kI i13_1), (67, kB (((shr32 (r17.2.2.1.getD ((Int.tdiv i13_1 32).toNat) 0) (Int.tmod i13_1 32)) &&& (1 : UInt32)) == 1))], [], [⟨(.ro false), 55, 1, r17.2.1, .w r17.1⟩, ⟨(.ro false), 55, 1, r17.2.2.2.1, .w r17.2.2.1⟩, ⟨(.ro false), 55, 1, r23.2.1, .w r23.1⟩, ⟨(.ro true), 55, 1, r57_2.2, .w r57_2.1⟩]⟩ (aP g9 (aP g10 (aP g11 (aP g12 (aP g13 (aP g14 aN)))))) ?_
       refine Vi ((((shr32 (r17.2.2.1.getD ((Int.tdiv i13_1 32).toNat) 0) (Int.tmod i13_1 32)) &&& (1 : UInt32)) == 1)) (fun g16 => ?_) (fun g16 => ?_)
       ·replace h := bif_t h g16
        obtain ⟨r71_2, g15, h⟩ := bind_some' h
        refine Vg hT (fT 3 (prest_ok n r71_2) fN) [] [] [0, 1, 2, 4] (pExp_j1_E r17 r23 i13_1 r71_2.1 r71_2.2) (aP g15 aN) ?_
        exact ⟨_, _, rfl, h⟩
       ·replace h := bif_f h g16
        refine Vc [] [0, 1, 2, 3] (pExp_j1_E r17 r23 i13_1 r57_2.1 r57_2.2) (W_skip ?_)
        exact ⟨_, _, rfl, h⟩
     ·replace h := bif_f h g18
      refine Vc [] [3] ⟨[(12, kH 0)], [], [⟨(.ro true), 55, 1, m12_5, .w w12_5⟩]⟩ (W_exit ?_)
      obtain ⟨g17, h⟩ := gd_some h
      refine Vgs hT (fT 1 clone_h fN) [] [] [1] ⟨[(6, kH 0), (7, .c (.s (.v .nilIface)))], [], [nw 55 w12_5]⟩ (aP g17 aN) ?_
      refine Vc [.er 7 34 .i64] [0] (pExp_R (w12_5, none)) (W_ret ?_)
      exact ⟨.inl rfl, by cases h; rfl⟩
def pat_R (r : UInt64) : S := ⟨[(4, kY r)], [], []⟩
def pat_ct (n : Nat) (r : UInt64) : Ct := ctc (rW 55).rd fun _ l0 => ctc rI.rd fun _ l1 => ct0 fun H => ([pat n l0 l1 = some r], shA H.length (kY r), shH H.length [])
theorem pat_ok (n : Nat) (r : UInt64) : FnOk Tryd.prog Tr 66 (pat_ct n r) := by
 refine fnok Tryd.func66 ?_
 refine HO_c (rW 55) fun l0 _ => HO_c rI fun l1 _ => HO_0 tabO_da (pat_R r) [.tmp 4] [] 14 Tryd.func66 fun w hG h => ?_
 unfold pat at h
 have hT := tabO_da
 refine Vrs hT [0] ⟨[(0, kH 0), (1, kI l1)], [], [ow 55 l0]⟩ ?_
 refine W_seq ?_
 refine Vrs hT [0] ⟨[(0, kH 0), (1, kI l1), (8, kB (decide (l1 < ((l0.length : Nat) : Int))))], [], [ow 55 l0]⟩ ?_
 refine Vi ((decide (l1 < ((l0.length : Nat) : Int)))) (fun g3 => ?_) (fun g3 => ?_)
 ·replace h := bif_t h g3
  obtain ⟨g1, g2, h⟩ := gd2 h
  refine Vgs hT fN [] [] [] ⟨[(4, kY ((l0.getD l1.toNat 0).toUInt64))], [], []⟩ (aP g1 (aP g2 aN)) ?_
  refine Vc [] [] (pat_R ((l0.getD l1.toNat 0).toUInt64)) (W_ret ?_)
  exact ⟨.inl rfl, by cases h; rfl⟩
 ·replace h := bif_f h g3
  refine Vc [] [] ⟨[], [], []⟩ (W_skip ?_)
  refine Vrs hT [] ⟨[(4, kY 0)], [], []⟩ ?_
  refine Vc [] [] (pat_R 0) (W_ret ?_)
  exact ⟨.inl rfl, by cases h; rfl⟩
def pless_l1_E (a0 : List UInt32) (a1 : List UInt32) (w5_2 : List UInt32) (y6_2 : UInt64) (i14_2 : Int) : S := ⟨[(0, kH 0), (1, kH 1), (5, kH 2), (6, kY y6_2), (13, kI ((((a0.length : Nat) : Int).toNat : Nat) : Int)), (14, kI i14_2)], [], [ow 55 a0, ow 55 a1, ⟨.row, 55, 1, ((a0.length : Nat) : Int).toNat, .w w5_2⟩]⟩
abbrev pless_l1_P (n : Nat) (a0 : List UInt32) (a1 : List UInt32) (r : List UInt32 × Nat) (fu : Nat) : S → Prop := fun s => ∃ (w5_2 : List UInt32), ∃ (y6_2 : UInt64), ∃ (i14_2 : Int), s = pless_l1_E a0 a1 w5_2 y6_2 i14_2 ∧ pless_l1 n a0 a1 fu w5_2 y6_2 i14_2 = some r
def pless_R (r : List UInt32 × Nat) : S := ⟨[(4, kH 0)], [], [⟨(.ro true), 55, 1, r.2, .w r.1⟩]⟩
def pless_ct (n : Nat) (r : List UInt32 × Nat) : Ct := ctc (rW 55).rd fun _ l0 => ctc (rW 55).rd fun _ l1 => ct0 fun H => ([pless n l0 l1 = some r], shA H.length (kH 0), shH H.length [⟨(.ro true), 55, 1, r.2, .w r.1⟩])
theorem pless_ok (n : Nat) (r : List UInt32 × Nat) : FnOk Tryd.prog Tr 67 (pless_ct n r) := by
 refine fnok Tryd.func67 ?_
 refine HO_c (rW 55) fun l0 _ => HO_c (rW 55) fun l1 _ => HO_0 tabO_da (pless_R r) [.tmp 4] [0] 36 Tryd.func67 fun w hG h => ?_
 unfold pless at h
 have hT := tabO_da
 refine Vrs hT [0, 1] ⟨[(0, kH 0), (1, kH 1)], [], [ow 55 l0, ow 55 l1]⟩ ?_
 obtain ⟨g1, g2, g3, h⟩ := gd3 h
 refine Vgs hT fN [] [] [0, 1, 2] ⟨[(0, kH 0), (1, kH 1), (5, kH 2), (6, kY 0)], [], [ow 55 l0, ow 55 l1, ⟨.row, 55, 1, ((l0.length : Nat) : Int).toNat, .w (List.replicate (((l0.length : Nat) : Int).toNat) 0)⟩]⟩ (aP g1 (aP g2 (aP g3 aN))) ?_
 refine W_seq ?_
 refine Vrs hT [0, 1, 2] ⟨[(0, kH 0), (1, kH 1), (5, kH 2), (6, kY 0), (13, kI ((((l0.length : Nat) : Int).toNat : Nat) : Int)), (14, kI 0)], [], [ow 55 l0, ow 55 l1, ⟨.row, 55, 1, ((l0.length : Nat) : Int).toNat, .w (List.replicate (((l0.length : Nat) : Int).toNat) 0)⟩]⟩ ?_
 refine W_block ?_
 refine Vc [] [0, 1, 2] (pless_l1_E l0 l1 (List.replicate (((l0.length : Nat) : Int).toNat) 0) 0 0) (W_lp ((pless_l1_P n l0 l1 r)) n ⟨_, _, _, rfl, h⟩ ?_)
 rintro fu_l1 _ ⟨w5_2, y6_2, i14_2, rfl, h⟩
 cases fu_l1 with
 | zero => cases h
 | succ fu_l1 =>
  refine ⟨fu_l1, rfl, ?_⟩
  rw [pless_l1] at h
  refine Vrs hT [0, 1, 2] ⟨[(0, kH 0), (1, kH 1), (5, kH 2), (6, kY y6_2), (13, kI ((((l0.length : Nat) : Int).toNat : Nat) : Int)), (14, kI i14_2), (15, kB (decide (i14_2 < ((((l0.length : Nat) : Int).toNat : Nat) : Int))))], [], [ow 55 l0, ow 55 l1, ⟨.row, 55, 1, ((l0.length : Nat) : Int).toNat, .w w5_2⟩]⟩ ?_
  refine W_seq ?_
  refine Vi ((decide (i14_2 < ((((l0.length : Nat) : Int).toNat : Nat) : Int)))) (fun g11 => ?_) (fun g11 => ?_)
  ·replace h := bif_t h g11
   refine W_skip ?_
   refine W_seq ?_
   refine W_block ?_
   refine Vrs hT [0, 1, 2] ⟨[(0, kH 0), (1, kH 1), (5, kH 2), (6, kY y6_2), (7, kI i14_2), (13, kI ((((l0.length : Nat) : Int).toNat : Nat) : Int)), (14, kI i14_2)], [], [ow 55 l0, ow 55 l1, ⟨.row, 55, 1, ((l0.length : Nat) : Int).toNat, .w w5_2⟩]⟩ ?_
   obtain ⟨r19_3, g4, h⟩ := bind_some' h
   obtain ⟨r22_3, g5, h⟩ := bind_some' h
   refine Vgs hT (fT 2 (pat_ok n r19_3) (fT 5 (pat_ok n r22_3) fN)) [] [] [0, 1, 2] ⟨[(0, kH 0), (1, kH 1), (5, kH 2), (7, kI i14_2), (8, kY ((r19_3 - r22_3) - y6_2)), (13, kI ((((l0.length : Nat) : Int).toNat : Nat) : Int)), (14, kI i14_2)], [], [ow 55 l0, ow 55 l1, ⟨.row, 55, 1, ((l0.length : Nat) : Int).toNat, .w w5_2⟩]⟩ (aP g4 (aP g5 aN)) ?_
   obtain ⟨g6, g7, g8, h⟩ := gd3 h
   refine Vg hT fN [] [] [0, 1, 2] ⟨[(0, kH 0), (1, kH 1), (5, kH 2), (6, kY (shr64 ((r19_3 - r22_3) - y6_2) 63)), (13, kI ((((l0.length : Nat) : Int).toNat : Nat) : Int)), (14, kI i14_2)], [], [ow 55 l0, ow 55 l1, ⟨.row, 55, 1, ((l0.length : Nat) : Int).toNat, .w (w5_2.set i14_2.toNat (((r19_3 - r22_3) - y6_2).toUInt32))⟩]⟩ (aP g6 (aP g7 (aP g8 aN))) ?_
   obtain ⟨g9, h⟩ := gd_some h
   refine Vg hT fN [] [] [0, 1, 2] (pless_l1_E l0 l1 (w5_2.set i14_2.toNat (((r19_3 - r22_3) - y6_2).toUInt32)) (shr64 ((r19_3 - r22_3) - y6_2) 63) (i14_2 + 1)) (aP g9 aN) ?_
   exact ⟨_, _, _, rfl, h⟩
  ·replace h := bif_f h g11
   refine Vc [] [2] ⟨[(5, kH 0)], [], [⟨.row, 55, 1, ((l0.length : Nat) : Int).toNat, .w w5_2⟩]⟩ (W_exit ?_)
   obtain ⟨r35_2, g10, h⟩ := bind_some' h
   refine Vgs hT (fT 1 (ptrim_ok n r35_2) fN) [] [] [0] ⟨[(4, .c (.sl 0 0 r35_2.2))], [], [⟨.row, 55, 1, ((l0.length : Nat) : Int).toNat, .w w5_2⟩]⟩ (aP g10 aN) ?_
   refine Vc [.vw 4 true] [1] (pless_R (((w5_2.drop 0).take r35_2.2), r35_2.2)) (W_ret ?_)
   exact ⟨.inl rfl, by cases h; rfl⟩
def pless2_R (r : List UInt32 × Nat) : S := ⟨[(6, kH 0)], [], [⟨(.ro true), 55, 1, r.2, .w r.1⟩]⟩
def pless2_ct (n : Nat) (r : List UInt32 × Nat) : Ct := ctc (rW 55).rd fun _ l0 => ctc (rW 55).rd fun _ l1 => ctc (rW 55).rd fun _ l2 => ct0 fun H => ([pless2 n l0 l1 l2 = some r], shA H.length (kH 0), shH H.length [⟨(.ro true), 55, 1, r.2, .w r.1⟩])
theorem pless2_ok (n : Nat) (r : List UInt32 × Nat) : FnOk Tryd.prog Tr 70 (pless2_ct n r) := by
 refine fnok Tryd.func70 ?_
 refine HO_c (rW 55) fun l0 _ => HO_c (rW 55) fun l1 _ => HO_c (rW 55) fun l2 _ => HO_0 tabO_da (pless2_R r) [.tmp 6] [0] 19 Tryd.func70 fun w hG h => ?_
 unfold pless2 at h
 have hT := tabO_da
 refine Vrs hT [0, 1, 2] ⟨[(0, kH 0), (1, kH 1), (2, kH 2)], [], [ow 55 l0, ow 55 l1, ow 55 l2]⟩ ?_
 refine W_seq ?_
 obtain ⟨r9, g1, h⟩ := bind_some' h
 refine Vgs hT (fT 2 (pCmp_ok n r9) fN) [] [] [0, 1, 2] ⟨[(0, kH 0), (1, kH 1), (2, kH 2), (10, kB (decide ((0 : Int) ≤ r9)))], [], [ow 55 l0, ow 55 l1, ow 55 l2]⟩ (aP g1 aN) ?_
 refine Vi ((decide ((0 : Int) ≤ r9))) (fun g5 => ?_) (fun g5 => ?_)
 ·replace h := bif_t h g5
  obtain ⟨r13, g2, h⟩ := bind_some' h
  refine Vgs hT (fT 2 (pless_ok n r13) fN) [] [] [3] ⟨[(6, kH 0)], [], [⟨(.ro true), 55, 1, r13.2, .w r13.1⟩]⟩ (aP g2 aN) ?_
  refine Vc [] [0] (pless2_R (r13.1, r13.2)) (W_ret ?_)
  exact ⟨.inl rfl, by cases h; rfl⟩
 ·replace h := bif_f h g5
  refine W_skip ?_
  obtain ⟨r17, g3, h⟩ := bind_some' h
  obtain ⟨r18, g4, h⟩ := bind_some' h
  refine Vgs hT (fT 3 (pless_ok n r17) (fT 4 (pless_ok n r18) fN)) [] [] [4] ⟨[(6, kH 0)], [], [⟨(.ro true), 55, 1, r18.2, .w r18.1⟩]⟩ (aP g3 (aP g4 aN)) ?_
  refine Vc [] [0] (pless2_R (r18.1, r18.2)) (W_ret ?_)
  exact ⟨.inl rfl, by cases h; rfl⟩
def pInv_j1_E (w9_7 : List UInt32) (m9_7 : Nat) (w10_7 : List UInt32) (m10_4 : Nat) : S := ⟨[(9, kH 0), (10, kH 1)], [], [⟨(.ro false), 55, 1, m9_7, .w w9_7⟩, ⟨(.ro true), 55, 1, m10_4, .w w10_7⟩]⟩
abbrev pInv_j1_P (n : Nat) (r : List UInt32 × Option Int) : S → Prop := fun s => ∃ (w9_7 : List UInt32), ∃ (m9_7 : Nat), ∃ (w10_7 : List UInt32), ∃ (m10_4 : Nat), s = pInv_j1_E w9_7 m9_7 w10_7 m10_4 ∧ pInv_j1 n w9_7 m9_7 w10_7 m10_4 = some r
def pInv_l1_E (r18 : List UInt32 × Nat × List UInt32 × Nat × Bool) (w8_7 : List UInt32) (m8_7 : Nat) (w9_9 : List UInt32) (m9_9 : Nat) (w10_9 : List UInt32) (m10_5 : Nat) (w11_7 : List UInt32) (m11_7 : Nat) : S := ⟨[(1, kH 0), (8, kH 1), (9, kH 2), (10, kH 3), (11, kH 4)], [], [⟨(.ro false), 55, 1, r18.2.2.2.1, .w r18.2.2.1⟩, ⟨(.ro true), 55, 1, m8_7, .w w8_7⟩, ⟨(.ro false), 55, 1, m9_9, .w w9_9⟩, ⟨(.ro true), 55, 1, m10_5, .w w10_9⟩, ⟨(.ro true), 55, 1, m11_7, .w w11_7⟩]⟩
abbrev pInv_l1_P (n : Nat) (r18 : List UInt32 × Nat × List UInt32 × Nat × Bool) (r : List UInt32 × Option Int) (fu : Nat) : S → Prop := fun s => ∃ (w8_7 : List UInt32), ∃ (m8_7 : Nat), ∃ (w9_9 : List UInt32), ∃ (m9_9 : Nat), ∃ (w10_9 : List UInt32), ∃ (m10_5 : Nat), ∃ (w11_7 : List UInt32), ∃ (m11_7 : Nat), s = pInv_l1_E r18 w8_7 m8_7 w9_9 m9_9 w10_9 m10_5 w11_7 m11_7 ∧ pInv_l1 n r18 fu w8_7 m8_7 w9_9 m9_9 w10_9 m10_5 w11_7 m11_7 = some r
def pInv_R (r : List UInt32 × Option Int) : S := ⟨[(4, kH 0), (5, kE 34 r.2)], [], [nw 55 r.1]⟩
def pInv_ct (n : Nat) (r : List UInt32 × Option Int) : Ct := ctc (rW 55).rd fun _ l0 => ctc (rW 55).rd fun _ l1 => ct0 fun H => ([pInv n l0 l1 = some r], shA H.length (.t [.c (.wh 0), .c (.s (.er 34 .i64 r.2))]), shH H.length [nw 55 r.1])
theorem pInv_ok (n : Nat) (r : List UInt32 × Option Int) : FnOk Tryd.prog Tr 48 (pInv_ct n r) := by
 refine fnok Tryd.func48 ?_
 refine HO_c (rW 55) fun l0 _ => HO_c (rW 55) fun l1 _ => HO_0 tabO_da (pInv_R r) [.tmp 4, .tmp 5] [0] 72 Tryd.func48 fun w hG h => ?_
 unfold pInv at h
 have hT := tabO_da
 refine Vrs hT [0, 1] ⟨[(0, kH 0), (1, kH 1)], [], [ow 55 l0, ow 55 l1]⟩ ?_
 obtain ⟨r18, g1, h⟩ := bind_some' h
 refine Vgs hT (fT 2 (pmay_ok n r18) fN) [] [] [2, 3] ⟨[(0, kH 0), (1, kH 1), (6, kB r18.2.2.2.2)], [], [⟨(.ro false), 55, 1, r18.2.1, .w r18.1⟩, ⟨(.ro false), 55, 1, r18.2.2.2.1, .w r18.2.2.1⟩]⟩ (aP g1 aN) ?_
 refine W_seq ?_
 refine W_block ?_
 refine Vrs hT [0, 1] ⟨[(0, kH 0), (1, kH 1), (22, kB (!r18.2.2.2.2))], [], [⟨(.ro false), 55, 1, r18.2.1, .w r18.1⟩, ⟨(.ro false), 55, 1, r18.2.2.2.1, .w r18.2.2.1⟩]⟩ ?_
 refine Vi ((!r18.2.2.2.2)) (fun g13 => ?_) (fun g13 => ?_)
 ·replace h := bif_t h g13
  refine Vrs hT [] ⟨[(4, .c (.nils)), (5, kE 34 (some 4))], [], []⟩ ?_
  refine Vc [.nil 4 55 1 (.w [])] [0] (pInv_R ([], (some 4))) (W_ret ?_)
  exact ⟨.inl rfl, by cases h; rfl⟩
 ·replace h := bif_f h g13
  refine W_seq ?_
  rcases Bool.eq_false_or_eq_true (((r18.2.2.2.1 : Nat) : Int) == 0) with g2 | g2
  ·replace h := bif_t h g2
   refine Vg hT fN [(3, true)] [] [0, 1] ⟨[(0, kH 0), (1, kH 1), (26, kB true)], [], [⟨(.ro false), 55, 1, r18.2.1, .w r18.1⟩, ⟨(.ro false), 55, 1, r18.2.2.2.1, .w r18.2.2.1⟩]⟩ (aP g2 aN) ?_
   refine Vi (true) (fun _ => ?_) (fun hb => by cases hb)
   refine Vrs hT [] ⟨[(4, .c (.nils)), (5, kE 34 (some 1))], [], []⟩ ?_
   refine Vc [.nil 4 55 1 (.w [])] [0] (pInv_R ([], (some 1))) (W_ret ?_)
   exact ⟨.inl rfl, by cases h; rfl⟩
  ·replace h := bif_f h g2
   obtain ⟨r33, g3, h⟩ := bind_some' h
   refine Vg hT (fT 6 (pCmp_ok n r33) fN) [(3, false)] [] [0, 1] ⟨[(0, kH 0), (1, kH 1), (26, kB (r33 == 0))], [], [⟨(.ro false), 55, 1, r18.2.1, .w r18.1⟩, ⟨(.ro false), 55, 1, r18.2.2.2.1, .w r18.2.2.1⟩]⟩ (aP g2 (aP g3 aN)) ?_
   refine Vi ((r33 == 0)) (fun g12 => ?_) (fun g12 => ?_)
   ·replace h := bif_t h g12
    refine Vrs hT [] ⟨[(4, .c (.nils)), (5, kE 34 (some 1))], [], []⟩ ?_
    refine Vc [.nil 4 55 1 (.w [])] [0] (pInv_R ([], (some 1))) (W_ret ?_)
    exact ⟨.inl rfl, by cases h; rfl⟩
   ·replace h := bif_f h g12
    refine W_skip ?_
    obtain ⟨r40, g4, h⟩ := bind_some' h
    refine Vgs hT (fT 2 (pdivide_ok n r40) fN) [] [] [1, 3] ⟨[(1, kH 0), (8, kH 1)], [], [⟨(.ro false), 55, 1, r18.2.2.2.1, .w r18.2.2.1⟩, ⟨(.ro true), 55, 1, r40.2.2.2, .w r40.2.2.1⟩]⟩ (aP g4 aN) ?_
    refine Vrs hT [0, 1, 2] ⟨[(1, kH 0), (8, kH 1), (9, kH 0), (10, .c (.nils)), (11, kH 2)], [], [⟨(.ro false), 55, 1, r18.2.2.2.1, .w r18.2.2.1⟩, ⟨(.ro true), 55, 1, r40.2.2.2, .w r40.2.2.1⟩, ⟨.row, 55, 1, 1, .w [1]⟩]⟩ ?_
    refine W_join (pInv_j1_P n r) ?_ ?_
    ·rintro _ ⟨w9_7, m9_7, w10_7, m10_4, rfl, h⟩
     unfold pInv_j1 at h
     refine W_seq ?_
     obtain ⟨r67_1, g5, h⟩ := bind_some' h
     refine Vgs hT (fT 2 (pCmp_ok n r67_1) fN) [] [] [1] ⟨[(10, kH 0), (68, kB (r67_1 != 0))], [], [⟨(.ro true), 55, 1, m10_4, .w w10_7⟩]⟩ (aP g5 aN) ?_
     refine Vi ((r67_1 != 0)) (fun g7 => ?_) (fun g7 => ?_)
     ·replace h := bif_t h g7
      refine Vrs hT [] ⟨[(4, .c (.nils)), (5, kE 34 (some 13))], [], []⟩ ?_
      refine Vc [.nil 4 55 1 (.w [])] [0] (pInv_R ([], (some 13))) (W_ret ?_)
      exact ⟨.inl rfl, by cases h; rfl⟩
     ·replace h := bif_f h g7
      refine W_skip ?_
      obtain ⟨g6, h⟩ := gd_some h
      refine Vgs hT (fT 1 clone_h fN) [] [] [1] ⟨[(4, kH 0), (5, .c (.s (.v .nilIface)))], [], [nw 55 w10_7]⟩ (aP g6 aN) ?_
      refine Vc [.er 5 34 .i64] [0] (pInv_R (w10_7, none)) (W_ret ?_)
      exact ⟨.inl rfl, by cases h; rfl⟩
    ·refine W_block ?_
     refine Vc [.emp 10 55 1 (.w []) true, .vw 11 true, .vw 9 false] [0, 1, 5, 3, 4] (pInv_l1_E r18 r40.2.2.1 r40.2.2.2 r18.2.2.1 r18.2.2.2.1 [] 0 [1] 1) (W_lp ((pInv_l1_P n r18 r)) n ⟨_, _, _, _, _, _, _, _, rfl, h⟩ ?_)
     rintro fu_l1 _ ⟨w8_7, m8_7, w9_9, m9_9, w10_9, m10_5, w11_7, m11_7, rfl, h⟩
     cases fu_l1 with
     | zero => cases h
     | succ fu_l1 =>
      refine ⟨fu_l1, rfl, ?_⟩
      rw [pInv_l1] at h
      refine W_seq ?_
      refine Vrs hT [0, 1, 2, 3, 4] ⟨[(1, kH 0), (8, kH 1), (9, kH 2), (10, kH 3), (11, kH 4), (47, kB (decide ((0 : Int) < ((m8_7 : Nat) : Int))))], [], [⟨(.ro false), 55, 1, r18.2.2.2.1, .w r18.2.2.1⟩, ⟨(.ro true), 55, 1, m8_7, .w w8_7⟩, ⟨(.ro false), 55, 1, m9_9, .w w9_9⟩, ⟨(.ro true), 55, 1, m10_5, .w w10_9⟩, ⟨(.ro true), 55, 1, m11_7, .w w11_7⟩]⟩ ?_
      refine Vi ((decide ((0 : Int) < ((m8_7 : Nat) : Int)))) (fun g11 => ?_) (fun g11 => ?_)
      ·replace h := bif_t h g11
       refine W_skip ?_
       refine W_block ?_
       obtain ⟨r51_8, g8, h⟩ := bind_some' h
       refine Vgs hT (fT 2 (pdivide_ok n r51_8) fN) [] [] [0, 1, 3, 4, 5, 6] ⟨[(1, kH 0), (8, kH 1), (10, kH 2), (11, kH 3), (12, kH 4), (13, kH 5)], [], [⟨(.ro false), 55, 1, r18.2.2.2.1, .w r18.2.2.1⟩, ⟨(.ro true), 55, 1, m8_7, .w w8_7⟩, ⟨(.ro true), 55, 1, m10_5, .w w10_9⟩, ⟨(.ro true), 55, 1, m11_7, .w w11_7⟩, ⟨(.ro true), 55, 1, r51_8.2.1, .w r51_8.1⟩, ⟨(.ro true), 55, 1, r51_8.2.2.2, .w r51_8.2.2.1⟩]⟩ (aP g8 aN) ?_
       obtain ⟨r58_8, g9, h⟩ := bind_some' h
       obtain ⟨r60_8, g10, h⟩ := bind_some' h
       refine Vgs hT (fT 4 (prest_ok n r58_8) (fT 6 (pless2_ok n r60_8) fN)) [] [] [0, 1, 3, 5, 7] ⟨[(1, kH 0), (8, kH 1), (11, kH 2), (13, kH 3), (14, kH 4)], [], [⟨(.ro false), 55, 1, r18.2.2.2.1, .w r18.2.2.1⟩, ⟨(.ro true), 55, 1, m8_7, .w w8_7⟩, ⟨(.ro true), 55, 1, m11_7, .w w11_7⟩, ⟨(.ro true), 55, 1, r51_8.2.2.2, .w r51_8.2.2.1⟩, ⟨(.ro true), 55, 1, r60_8.2, .w r60_8.1⟩]⟩ (aP g9 (aP g10 aN)) ?_
       refine Vg hT fN [] [.vw 9 false] [0, 3, 5, 2, 4] (pInv_l1_E r18 r51_8.2.2.1 r51_8.2.2.2 w8_7 m8_7 w11_7 m11_7 r60_8.1 r60_8.2) aN ?_
       exact ⟨_, _, _, _, _, _, _, _, rfl, h⟩
      ·replace h := bif_f h g11
       refine Vc [] [2, 3] (pInv_j1_E w9_9 m9_9 w10_9 m10_5) (W_exit ?_)
       exact ⟨_, _, _, _, rfl, h⟩
end Go.Proofs.YthichmclbiggmaaDoor
end
section
namespace Go.Proofs.YthichmclbiggmaaDoor
open Go.RowKit Go.Ch Go.Sx
def tabL_db : List (TypeId × Ti) := [(3, ⟨.int .i64, 1, 8, true, some [.int .i64]⟩),
 (5, ⟨.int .u8, 1, 1, true, some [.int .u8]⟩),
 (23, ⟨.sl 55, 1, 24, false, some [.nils]⟩),
 (25, ⟨.st [(23, 0), (23, 1), (23, 2)], 3, 72, false, some [.nils, .nils, .nils]⟩),
 (26, ⟨.sl 5, 1, 24, false, some [.nils]⟩),
 (31, ⟨.ifc, 1, 16, true, some [.ifc]⟩),
 (34, ⟨.int .i64, 1, 8, true, some [.int .i64]⟩),
 (40, ⟨.st [(23, 0), (23, 1)], 2, 48, false, some [.nils, .nils]⟩),
 (55, ⟨.int .u32, 1, 4, true, some [.int .u32]⟩),
 (76, ⟨.arr 3 23, 3, 72, false, some [.nils, .nils, .nils]⟩),
 (79, ⟨.arr 2 23, 2, 48, false, some [.nils, .nils]⟩),
 (96, ⟨.int .u64, 1, 8, true, some [.int .u64]⟩)]
def tab_db : Tab := fun t => (tabL_db).lookup t
theorem tabE_db : (tabL_db.map fun p => tiOf Tryd.prog p.1) = tabL_db.map fun p => some p.2 := by kernel_rfl
theorem tabO_db : TabOk Tryd.prog tab_db := tab_of tabE_db
def pSub (n : Nat) (a0 : List UInt32) (a1 : List UInt32) : Option (List UInt32 × Nat × Option Int) :=
 (pmay n a0 a1).bind fun r10 =>
 bif (!r10.2.2.2.2) then
  some ([], 0, (some 4))
 else
  (pCmp n r10.1 r10.2.2.1).bind fun r21 =>
  bif (decide (r21 < (0 : Int))) then
   some ([], 0, (some 1))
  else
   (pless n r10.1 r10.2.2.1).bind fun r26 =>
   some (r26.1, r26.2, none)
def pWrite_j1 (n : Nat) (a0 : List UInt32) (a1 : Int) (r10 : List UInt32 × Nat) (i27_1 : Int) (k_l1 : (List UInt8) → Int → Option (List UInt8 × Nat × Option Int)) (l6_7 : List UInt8) : Option (List UInt8 × Nat × Option Int) :=
 gd (okI .i64 (i27_1 + 1)) <|
 k_l1 l6_7 (i27_1 + 1)
def pWrite_l1 (n : Nat) (a0 : List UInt32) (a1 : Int) (r10 : List UInt32 × Nat) : Nat → List UInt8 → Int → Option (List UInt8 × Nat × Option Int)
 | 0, _, _ => none
 | fu_l1 + 1, l6_5, i27_1 =>
 bif (decide (i27_1 < (4 * ((r10.2 : Nat) : Int)))) then
 gd ((4 : Int) ≠ 0) <|
 gd (okI .i64 (Int.tdiv i27_1 4)) <|
 gd (0 ≤ (Int.tdiv i27_1 4)) <|
 gd ((Int.tdiv i27_1 4) < ((r10.2 : Nat) : Int)) <|
 gd ((4 : Int) ≠ 0) <|
 gd (okI .i64 (8 * (Int.tmod i27_1 4))) <|
 gd (0 ≤ (8 * (Int.tmod i27_1 4))) <|
 bif (decide (i27_1 < a1)) then
 gd (okI .i64 (a1 - 1)) <|
 gd (okI .i64 ((a1 - 1) - i27_1)) <|
 gd (0 ≤ ((a1 - 1) - i27_1)) <|
 gd (((a1 - 1) - i27_1) < ((a1.toNat : Nat) : Int)) <|
 pWrite_j1 n a0 a1 r10 i27_1 (pWrite_l1 n a0 a1 r10 fu_l1) (l6_5.set (((a1 - 1) - i27_1).toNat) ((shr32 (((a0.drop 0).take r10.2).getD ((Int.tdiv i27_1 4).toNat) 0) (8 * (Int.tmod i27_1 4))).toUInt8))
 else
 bif (((shr32 (((a0.drop 0).take r10.2).getD ((Int.tdiv i27_1 4).toNat) 0) (8 * (Int.tmod i27_1 4))).toUInt8) != 0) then
 some ([], 0, (some 1))
 else
 pWrite_j1 n a0 a1 r10 i27_1 (pWrite_l1 n a0 a1 r10 fu_l1) l6_5
 else
 some (l6_5, a1.toNat, none)
def pWrite (n : Nat) (a0 : List UInt32) (a1 : Int) : Option (List UInt8 × Nat × Option Int) :=
 (ptrim n a0).bind fun r10 =>
 bif (decide ((64 : Int) < ((r10.2 : Nat) : Int))) then
  some ([], 0, (some 4))
 else
  bif (decide (a1 < (0 : Int))) then
   some ([], 0, (some 1))
  else
   bif (decide ((256 : Int) < a1)) then
    some ([], 0, (some 1))
   else
    gd (0 ≤ a1) <|
    gd (a1 = a1) <|
    gd (rmB a1.toNat 1) <|
    gd (okI .i64 (4 * ((r10.2 : Nat) : Int))) <|
    pWrite_l1 n a0 a1 r10 n (List.replicate a1.toNat 0) 0
def pMul (n : Nat) (a0 : List UInt32) (a1 : List UInt32) : Option (List UInt32 × Nat × Option Int) :=
 (pmay n a0 a1).bind fun r10 =>
 bif (!r10.2.2.2.2) then
  some ([], 0, (some 4))
 else
  (ptimes n r10.1 r10.2.2.1).bind fun r19 =>
  some (r19.1, r19.2, none)
def pAdd_l1 (n : Nat) (r13 : List UInt32 × Nat × List UInt32 × Nat × Bool) : Nat → List UInt32 → UInt64 → Int → Option (List UInt32 × Nat × Option Int)
 | 0, _, _, _ => none
 | fu_l1 + 1, w7_1, y8_1, i29_1 =>
  bif (decide (i29_1 < ((((if ((r13.2.2.2.1 : Nat) : Int) > ((r13.2.1 : Nat) : Int) then ((r13.2.2.2.1 : Nat) : Int) else ((r13.2.1 : Nat) : Int)) + 1).toNat : Nat) : Int))) then
   (pat n r13.1 i29_1).bind fun r35_2 =>
   (pat n r13.2.2.1 i29_1).bind fun r38_2 =>
   gd (0 ≤ (32 : Int)) <|
   gd (0 ≤ i29_1) <|
   gd (i29_1 < ((((if ((r13.2.2.2.1 : Nat) : Int) > ((r13.2.1 : Nat) : Int) then ((r13.2.2.2.1 : Nat) : Int) else ((r13.2.1 : Nat) : Int)) + 1).toNat : Nat) : Int)) <|
   gd (okI .i64 (i29_1 + 1)) <|
   (pAdd_l1 n r13 fu_l1) (w7_1.set i29_1.toNat ((y8_1 + (r35_2 + r38_2)).toUInt32)) (shr64 (y8_1 + (r35_2 + r38_2)) 32) (i29_1 + 1)
  else
   (ptrim n w7_1).bind fun r50_1 =>
   some (((w7_1.drop 0).take r50_1.2), r50_1.2, none)
def pAdd (n : Nat) (a0 : List UInt32) (a1 : List UInt32) : Option (List UInt32 × Nat × Option Int) :=
 (pmay n a0 a1).bind fun r13 =>
 bif (!r13.2.2.2.2) then
  some ([], 0, (some 4))
 else
  gd (okI .i64 ((if ((r13.2.2.2.1 : Nat) : Int) > ((r13.2.1 : Nat) : Int) then ((r13.2.2.2.1 : Nat) : Int) else ((r13.2.1 : Nat) : Int)) + 1)) <|
  gd (0 ≤ ((if ((r13.2.2.2.1 : Nat) : Int) > ((r13.2.1 : Nat) : Int) then ((r13.2.2.2.1 : Nat) : Int) else ((r13.2.1 : Nat) : Int)) + 1)) <|
  gd (((if ((r13.2.2.2.1 : Nat) : Int) > ((r13.2.1 : Nat) : Int) then ((r13.2.2.2.1 : Nat) : Int) else ((r13.2.1 : Nat) : Int)) + 1) = ((if ((r13.2.2.2.1 : Nat) : Int) > ((r13.2.1 : Nat) : Int) then ((r13.2.2.2.1 : Nat) : Int) else ((r13.2.1 : Nat) : Int)) + 1)) <|
  gd (rmB (((if ((r13.2.2.2.1 : Nat) : Int) > ((r13.2.1 : Nat) : Int) then ((r13.2.2.2.1 : Nat) : Int) else ((r13.2.1 : Nat) : Int)) + 1).toNat) 4) <|
  pAdd_l1 n r13 n (List.replicate (((if ((r13.2.2.2.1 : Nat) : Int) > ((r13.2.1 : Nat) : Int) then ((r13.2.2.2.1 : Nat) : Int) else ((r13.2.1 : Nat) : Int)) + 1).toNat) 0) 0 0
def ksize_l1 (n : Nat) (a0 : List UInt32) : Nat → Int → Option (Int)
 | 0, _ => none
 | fu_l1 + 1, i6_2 =>
  bif (decide (i6_2 < (129 : Int))) then
   (pWrite n a0 i6_2).bind fun r12_3 =>
   bif ((r12_3.2.2).isNone) then
    some i6_2
   else
    gd (okI .i64 (i6_2 + 1)) <|
    (ksize_l1 n a0 fu_l1) (i6_2 + 1)
  else
   some (-1)
def ksize (n : Nat) (a0 : List UInt32) : Option (Int) :=
 ksize_l1 n a0 n 0
def kodd (n : Nat) (a0 : List UInt32) : Option (Bool) :=
 bif (decide ((0 : Int) < ((a0.length : Nat) : Int))) then
 gd (0 ≤ (0 : Int)) <|
 gd ((0 : Int) < ((a0.length : Nat) : Int)) <|
 some (((a0.getD 0 0) &&& (1 : UInt32)) == 1)
 else
 some false
def kCheck (n : Nat) (a0_0 : List UInt32) (a0_1 : List UInt32) : Option (Option Int) :=
 (ksize n a0_0).bind fun r6 =>
 bif (decide (r6 < (62 : Int))) then
  some (some 1)
 else
  (kodd n a0_0).bind fun r12 =>
  bif (!r12) then
   some (some 1)
  else
   (kodd n a0_1).bind fun r18 =>
   bif (!r18) then
    some (some 1)
   else
    (pCmp n a0_1 [3]).bind fun r25 =>
    bif (decide (r25 < (0 : Int))) then
     some (some 1)
    else
     (pCmp n a0_1 a0_0).bind fun r33 =>
     bif (decide ((0 : Int) ≤ r33)) then
      some (some 1)
     else
      some none
def ksecret (n : Nat) (a0_0 : List UInt32) (a0_1 : List UInt32) (a0_2 : List UInt32) : Option (Option Int) :=
 (kCheck n a0_0 a0_1).bind fun r8 =>
 bif (!((r8).isNone)) then
  some (some 1)
 else
  (pCmp n a0_2 []).bind fun r13 =>
  bif (r13 == 0) then
   some (some 1)
  else
   (pCmp n a0_2 a0_0).bind fun r21 =>
   bif (decide ((0 : Int) ≤ r21)) then
    some (some 1)
   else
    some none
def kPair (n : Nat) (a0 : List UInt32) (a1 : List UInt32) (a2 : List UInt32) : Option (List UInt32 × Nat × List UInt32 × Nat × List UInt32 × Option Int) :=
 gd (0 ≤ (0 : Int)) <|
 gd ((0 : Int) < (3 : Int)) <|
 (pAdd n a0 []).bind fun r36 =>
 bif (!((r36.2.2).isNone)) then
  some ([], 0, [], 0, [], r36.2.2)
 else
  gd (okI .i64 1) <|
  gd (0 ≤ (1 : Int)) <|
  gd ((1 : Int) < (3 : Int)) <|
  (pAdd n a1 []).bind fun r36_1 =>
  bif (!((r36_1.2.2).isNone)) then
   some ([], 0, [], 0, [], r36_1.2.2)
  else
   gd (okI .i64 2) <|
   gd (0 ≤ (2 : Int)) <|
   gd ((2 : Int) < (3 : Int)) <|
   (pAdd n a2 []).bind fun r36_2 =>
   bif (!((r36_2.2.2).isNone)) then
    some ([], 0, [], 0, [], r36_2.2.2)
   else
    gd (okI .i64 3) <|
    gd (0 ≤ (0 : Int)) <|
    gd ((0 : Int) < (2 : Int)) <|
    (ksize n a0).bind fun r52 =>
    (pCmp n a0 [3]).bind fun r55 =>
    bif (decide (r55 < (0 : Int))) then
     some ([], 0, [], 0, [], (some 1))
    else
     bif (decide (r52 < (0 : Int))) then
      some ([], 0, [], 0, [], (some 1))
     else
      bif (decide ((64 : Int) < r52)) then
       some ([], 0, [], 0, [], (some 1))
      else
       (pSub n a0 [1]).bind fun r70 =>
       bif (!((r70.2.2).isNone)) then
        some ([], 0, [], 0, [], r70.2.2)
       else
        gd (0 ≤ (0 : Int)) <|
        gd ((0 : Int) < (2 : Int)) <|
        gd (okI .i64 1) <|
        gd (0 ≤ (1 : Int)) <|
        gd ((1 : Int) < (2 : Int)) <|
        (ksize n a1).bind fun r52_1 =>
        (pCmp n a1 [3]).bind fun r55_1 =>
        bif (decide (r55_1 < (0 : Int))) then
         some ([], 0, [], 0, [], (some 1))
        else
         bif (decide (r52_1 < (0 : Int))) then
          some ([], 0, [], 0, [], (some 1))
         else
          bif (decide ((64 : Int) < r52_1)) then
           some ([], 0, [], 0, [], (some 1))
          else
           (pSub n a1 [1]).bind fun r70_1 =>
           bif (!((r70_1.2.2).isNone)) then
            some ([], 0, [], 0, [], r70_1.2.2)
           else
            gd (0 ≤ (1 : Int)) <|
            gd ((1 : Int) < (2 : Int)) <|
            gd (okI .i64 2) <|
            gd (0 ≤ (0 : Int)) <|
            gd ((0 : Int) < (2 : Int)) <|
            gd (0 ≤ (1 : Int)) <|
            gd ((1 : Int) < (2 : Int)) <|
            (pMul n r70.1 r70_1.1).bind fun r86 =>
            bif (!((r86.2.2).isNone)) then
             some ([], 0, [], 0, [], r86.2.2)
            else
             (pInv n a2 r86.1).bind fun r96 =>
             bif (!((r96.2).isNone)) then
              some ([], 0, [], 0, [], (some 13))
             else
              (pMul n a0 a1).bind fun r106 =>
              bif (!((r106.2.2).isNone)) then
               some ([], 0, [], 0, [], r106.2.2)
              else
               (pAdd n a2 []).bind fun r115 =>
               bif (!((r115.2.2).isNone)) then
                some ([], 0, [], 0, [], r115.2.2)
               else
                (ksecret n r106.1 r115.1 r96.1).bind fun r127 =>
                bif (!((r127).isNone)) then
                 some ([], 0, [], 0, [], r127)
                else
                 some (r106.1, r106.2.1, r115.1, r115.2.1, r96.1, none)
def kup (n : Nat) : Option (Bool) :=
 (kCheck n [15] [3]).bind fun r7 =>
 (kPair n [2] [7] [3]).bind fun r12 =>
 gd (¬((r7 : Option Int) = none ∧ ((some 1) : Option Int) = none)) <|
 bif (r7 == (some 1)) then
  gd (¬((r12.2.2.2.2.2 : Option Int) = none ∧ ((some 1) : Option Int) = none)) <|
  some (r12.2.2.2.2.2 == (some 1))
 else
  some false
def pSub_R (r : List UInt32 × Nat × Option Int) : S := ⟨[(4, kH 0), (5, kE 34 r.2.2)], [], [⟨(.ro true), 55, 1, r.2.1, .w r.1⟩]⟩
def pSub_ct (n : Nat) (r : List UInt32 × Nat × Option Int) : Ct := ctc (rW 55).rd fun _ l0 => ctc (rW 55).rd fun _ l1 => ct0 fun H => ([pSub n l0 l1 = some r], shA H.length (.t [.c (.wh 0), .c (.s (.er 34 .i64 r.2.2))]), shH H.length [⟨(.ro true), 55, 1, r.2.1, .w r.1⟩])
theorem pSub_ok (n : Nat) (r : List UInt32 × Nat × Option Int) : FnOk Tryd.prog Tr 46 (pSub_ct n r) := by
 refine fnok Tryd.func46 ?_
 refine HO_c (rW 55) fun l0 _ => HO_c (rW 55) fun l1 _ => HO_0 tabO_db (pSub_R r) [.tmp 4, .tmp 5] [0] 27 Tryd.func46 fun w hG h => ?_
 unfold pSub at h
 have hT := tabO_db
 refine Vrs hT [0, 1] ⟨[(0, kH 0), (1, kH 1)], [], [ow 55 l0, ow 55 l1]⟩ ?_
 obtain ⟨r10, g1, h⟩ := bind_some' h
 refine Vgs hT (fT 2 (pmay_ok n r10) fN) [] [] [2, 3] ⟨[(0, kH 0), (1, kH 1), (6, kB r10.2.2.2.2)], [], [⟨(.ro false), 55, 1, r10.2.1, .w r10.1⟩, ⟨(.ro false), 55, 1, r10.2.2.2.1, .w r10.2.2.1⟩]⟩ (aP g1 aN) ?_
 refine W_seq ?_
 refine W_block ?_
 refine Vrs hT [0, 1] ⟨[(0, kH 0), (1, kH 1), (14, kB (!r10.2.2.2.2))], [], [⟨(.ro false), 55, 1, r10.2.1, .w r10.1⟩, ⟨(.ro false), 55, 1, r10.2.2.2.1, .w r10.2.2.1⟩]⟩ ?_
 refine Vi ((!r10.2.2.2.2)) (fun g5 => ?_) (fun g5 => ?_)
 ·replace h := bif_t h g5
  refine Vrs hT [] ⟨[(4, .c (.nils)), (5, kE 34 (some 4))], [], []⟩ ?_
  refine Vc [.emp 4 55 1 (.w []) true] [0] (pSub_R ([], 0, (some 4))) (W_ret ?_)
  exact ⟨.inl rfl, by cases h; rfl⟩
 ·replace h := bif_f h g5
  obtain ⟨r21, g2, h⟩ := bind_some' h
  refine Vgs hT (fT 2 (pCmp_ok n r21) fN) [] [] [0, 1] ⟨[(0, kH 0), (1, kH 1), (18, kB (decide (r21 < (0 : Int))))], [], [⟨(.ro false), 55, 1, r10.2.1, .w r10.1⟩, ⟨(.ro false), 55, 1, r10.2.2.2.1, .w r10.2.2.1⟩]⟩ (aP g2 aN) ?_
  refine Vi ((decide (r21 < (0 : Int)))) (fun g4 => ?_) (fun g4 => ?_)
  ·replace h := bif_t h g4
   refine Vrs hT [] ⟨[(4, .c (.nils)), (5, kE 34 (some 1))], [], []⟩ ?_
   refine Vc [.emp 4 55 1 (.w []) true] [0] (pSub_R ([], 0, (some 1))) (W_ret ?_)
   exact ⟨.inl rfl, by cases h; rfl⟩
  ·replace h := bif_f h g4
   refine W_skip ?_
   obtain ⟨r26, g3, h⟩ := bind_some' h
   refine Vgs hT (fT 2 (pless_ok n r26) fN) [] [] [2] ⟨[(4, kH 0), (5, .c (.s (.v .nilIface)))], [], [⟨(.ro true), 55, 1, r26.2, .w r26.1⟩]⟩ (aP g3 aN) ?_
   refine Vc [.er 5 34 .i64] [0] (pSub_R (r26.1, r26.2, none)) (W_ret ?_)
   exact ⟨.inl rfl, by cases h; rfl⟩
def pWrite_j1_E (a0 : List UInt32) (a1 : Int) (r10 : List UInt32 × Nat) (i27_1 : Int) (l6_7 : List UInt8) : S := ⟨[(0, kH 0), (1, kI a1), (6, kH 1), (26, kI (4 * ((r10.2 : Nat) : Int))), (27, kI i27_1)], [], [⟨(.ro false), 55, 1, r10.2, .w ((a0.drop 0).take r10.2)⟩, ⟨.row, 5, 1, a1.toNat, .b l6_7⟩]⟩
abbrev pWrite_j1_P (n : Nat) (a0 : List UInt32) (a1 : Int) (r10 : List UInt32 × Nat) (i27_1 : Int) (k_l1 : (List UInt8) → Int → Option (List UInt8 × Nat × Option Int)) (r : List UInt8 × Nat × Option Int) : S → Prop := fun s => ∃ (l6_7 : List UInt8), s = pWrite_j1_E a0 a1 r10 i27_1 l6_7 ∧ pWrite_j1 n a0 a1 r10 i27_1 k_l1 l6_7 = some r
def pWrite_l1_E (a0 : List UInt32) (a1 : Int) (r10 : List UInt32 × Nat) (l6_5 : List UInt8) (i27_1 : Int) : S := ⟨[(0, kH 0), (1, kI a1), (6, kH 1), (26, kI (4 * ((r10.2 : Nat) : Int))), (27, kI i27_1)], [], [⟨(.ro false), 55, 1, r10.2, .w ((a0.drop 0).take r10.2)⟩, ⟨.row, 5, 1, a1.toNat, .b l6_5⟩]⟩
abbrev pWrite_l1_P (n : Nat) (a0 : List UInt32) (a1 : Int) (r10 : List UInt32 × Nat) (r : List UInt8 × Nat × Option Int) (fu : Nat) : S → Prop := fun s => ∃ (l6_5 : List UInt8), ∃ (i27_1 : Int), s = pWrite_l1_E a0 a1 r10 l6_5 i27_1 ∧ pWrite_l1 n a0 a1 r10 fu l6_5 i27_1 = some r
def pWrite_R (r : List UInt8 × Nat × Option Int) : S := ⟨[(4, kH 0), (5, kE 34 r.2.2)], [], [⟨.row, 5, 1, r.2.1, .b r.1⟩]⟩
def pWrite_ct (n : Nat) (r : List UInt8 × Nat × Option Int) : Ct := ctc (rW 55).rd fun _ l0 => ctc rI.rd fun _ l1 => ct0 fun H => ([pWrite n l0 l1 = some r], shA H.length (.t [.c (.wh 0), .c (.s (.er 34 .i64 r.2.2))]), shH H.length [⟨.row, 5, 1, r.2.1, .b r.1⟩])
theorem pWrite_ok (n : Nat) (r : List UInt8 × Nat × Option Int) : FnOk Tryd.prog Tr 51 (pWrite_ct n r) := by
 refine fnok Tryd.func51 ?_
 refine HO_c (rW 55) fun l0 _ => HO_c rI fun l1 _ => HO_0 tabO_db (pWrite_R r) [.tmp 4, .tmp 5] [0] 55 Tryd.func51 fun w hG h => ?_
 unfold pWrite at h
 have hT := tabO_db
 refine Vrs hT [0] ⟨[(0, kH 0), (1, kI l1)], [], [ow 55 l0]⟩ ?_
 obtain ⟨r10, g1, h⟩ := bind_some' h
 refine Vgs hT (fT 1 (ptrim_ok n r10) fN) [] [] [0] ⟨[(0, .c (.sl 0 0 r10.2)), (1, kI l1)], [], [ow 55 l0]⟩ (aP g1 aN) ?_
 refine W_seq ?_
 refine Vrs hT [0] ⟨[(0, .c (.sl 0 0 r10.2)), (1, kI l1), (13, kB (decide ((64 : Int) < ((r10.2 : Nat) : Int))))], [], [ow 55 l0]⟩ ?_
 refine Vi ((decide ((64 : Int) < ((r10.2 : Nat) : Int)))) (fun g23 => ?_) (fun g23 => ?_)
 ·replace h := bif_t h g23
  refine Vrs hT [] ⟨[(4, .c (.nils)), (5, kE 34 (some 4))], [], []⟩ ?_
  refine Vc [.nil 4 5 1 (.b [])] [0] (pWrite_R ([], 0, (some 4))) (W_ret ?_)
  exact ⟨.inl rfl, by cases h; rfl⟩
 ·replace h := bif_f h g23
  refine Vc [] [0] ⟨[(0, .c (.sl 0 0 r10.2)), (1, kI l1)], [], [ow 55 l0]⟩ (W_skip ?_)
  refine W_seq ?_
  refine W_seq ?_
  rcases Bool.eq_false_or_eq_true (decide (l1 < (0 : Int))) with g2 | g2
  ·replace h := bif_t h g2
   refine Vg hT fN [(2, true)] [] [0] ⟨[(0, .c (.sl 0 0 r10.2)), (1, kI l1), (20, kB true)], [], [ow 55 l0]⟩ (aP g2 aN) ?_
   refine Vi (true) (fun _ => ?_) (fun hb => by cases hb)
   refine Vrs hT [] ⟨[(4, .c (.nils)), (5, kE 34 (some 1))], [], []⟩ ?_
   refine Vc [.nil 4 5 1 (.b [])] [0] (pWrite_R ([], 0, (some 1))) (W_ret ?_)
   exact ⟨.inl rfl, by cases h; rfl⟩
  ·replace h := bif_f h g2
   refine Vg hT fN [(2, false)] [] [0] ⟨[(0, .c (.sl 0 0 r10.2)), (1, kI l1), (20, kB (decide ((256 : Int) < l1)))], [], [ow 55 l0]⟩ (aP g2 aN) ?_
   refine Vi ((decide ((256 : Int) < l1))) (fun g22 => ?_) (fun g22 => ?_)
   ·replace h := bif_t h g22
    refine Vrs hT [] ⟨[(4, .c (.nils)), (5, kE 34 (some 1))], [], []⟩ ?_
    refine Vc [.nil 4 5 1 (.b [])] [0] (pWrite_R ([], 0, (some 1))) (W_ret ?_)
    exact ⟨.inl rfl, by cases h; rfl⟩
   ·replace h := bif_f h g22
    refine W_skip ?_
    obtain ⟨g3, g4, g5, h⟩ := gd3 h
    refine Vgs hT fN [] [] [0, 1] ⟨[(0, .c (.sl 0 0 r10.2)), (1, kI l1), (6, kH 1)], [], [ow 55 l0, ⟨.row, 5, 1, l1.toNat, .b (List.replicate l1.toNat 0)⟩]⟩ (aP g3 (aP g4 (aP g5 aN))) ?_
    refine W_seq ?_
    obtain ⟨g6, h⟩ := gd_some h
    refine Vgs hT fN [] [] [0, 1] ⟨[(0, .c (.sl 0 0 r10.2)), (1, kI l1), (6, kH 1), (26, kI (4 * ((r10.2 : Nat) : Int))), (27, kI 0)], [], [ow 55 l0, ⟨.row, 5, 1, l1.toNat, .b (List.replicate l1.toNat 0)⟩]⟩ (aP g6 aN) ?_
    refine W_block ?_
    refine Vc [.vw 0 false] [2, 1] (pWrite_l1_E l0 l1 r10 (List.replicate l1.toNat 0) 0) (W_lp ((pWrite_l1_P n l0 l1 r10 r)) n ⟨_, _, rfl, h⟩ ?_)
    rintro fu_l1 _ ⟨l6_5, i27_1, rfl, h⟩
    cases fu_l1 with
    | zero => cases h
    | succ fu_l1 =>
     refine ⟨fu_l1, rfl, ?_⟩
     rw [pWrite_l1] at h
     refine Vrs hT [0, 1] ⟨[(0, kH 0), (1, kI l1), (6, kH 1), (26, kI (4 * ((r10.2 : Nat) : Int))), (27, kI i27_1), (28, kB (decide (i27_1 < (4 * ((r10.2 : Nat) : Int)))))], [], [⟨(.ro false), 55, 1, r10.2, .w ((l0.drop 0).take r10.2)⟩, ⟨.row, 5, 1, l1.toNat, .b l6_5⟩]⟩ ?_
     refine W_seq ?_
     refine Vi ((decide (i27_1 < (4 * ((r10.2 : Nat) : Int))))) (fun g21 => ?_) (fun g21 => ?_)
     ·replace h := bif_t h g21
      refine Vc [] [0, 1] ⟨[(0, kH 0), (1, kI l1), (6, kH 1), (26, kI (4 * ((r10.2 : Nat) : Int))), (27, kI i27_1)], [], [⟨(.ro false), 55, 1, r10.2, .w ((l0.drop 0).take r10.2)⟩, ⟨.row, 5, 1, l1.toNat, .b l6_5⟩]⟩ (W_skip ?_)
      refine W_join (pWrite_j1_P n l0 l1 r10 i27_1 (pWrite_l1 n l0 l1 r10 fu_l1) r) ?_ ?_
      ·rintro _ ⟨l6_7, rfl, h⟩
       unfold pWrite_j1 at h
       obtain ⟨g7, h⟩ := gd_some h
       refine Vg hT fN [] [] [0, 1] (pWrite_l1_E l0 l1 r10 l6_7 (i27_1 + 1)) (aP g7 aN) ?_
       exact ⟨_, _, rfl, h⟩
      ·refine W_block ?_
       refine Vrs hT [0, 1] ⟨[(0, kH 0), (1, kI l1), (6, kH 1), (7, kI i27_1), (26, kI (4 * ((r10.2 : Nat) : Int))), (27, kI i27_1)], [], [⟨(.ro false), 55, 1, r10.2, .w ((l0.drop 0).take r10.2)⟩, ⟨.row, 5, 1, l1.toNat, .b l6_5⟩]⟩ ?_
       obtain ⟨g8, g9, g10, g11, g12, h⟩ := gd5 h
       obtain ⟨g13, g14, h⟩ := gd2 h
       refine Vgs hT fN [] [] [0, 1] ⟨[(0, kH 0), (1, kI l1), (6, kH 1), (7, kI i27_1), (8, kU ((shr32 (((l0.drop 0).take r10.2).getD ((Int.tdiv i27_1 4).toNat) 0) (8 * (Int.tmod i27_1 4))).toUInt8)), (26, kI (4 * ((r10.2 : Nat) : Int))), (27, kI i27_1)], [], [⟨(.ro false), 55, 1, r10.2, .w ((l0.drop 0).take r10.2)⟩, ⟨.row, 5, 1, l1.toNat, .b l6_5⟩]⟩ (aP g8 (aP g9 (aP g10 (aP g11 (aP g12 (aP g13 (aP g14 aN))))))) ?_
       refine Vrs hT [0, 1] ⟨[(0, kH 0), (1, kI l1), (6, kH 1), (7, kI i27_1), (8, kU ((shr32 (((l0.drop 0).take r10.2).getD ((Int.tdiv i27_1 4).toNat) 0) (8 * (Int.tmod i27_1 4))).toUInt8)), (26, kI (4 * ((r10.2 : Nat) : Int))), (27, kI i27_1), (42, kB (decide (i27_1 < l1)))], [], [⟨(.ro false), 55, 1, r10.2, .w ((l0.drop 0).take r10.2)⟩, ⟨.row, 5, 1, l1.toNat, .b l6_5⟩]⟩ ?_
       refine Vi ((decide (i27_1 < l1))) (fun g20 => ?_) (fun g20 => ?_)
       ·replace h := bif_t h g20
        obtain ⟨g15, g16, g17, g18, h⟩ := gd4 h
        refine Vg hT fN [] [] [0, 1] (pWrite_j1_E l0 l1 r10 i27_1 (l6_5.set (((l1 - 1) - i27_1).toNat) ((shr32 (((l0.drop 0).take r10.2).getD ((Int.tdiv i27_1 4).toNat) 0) (8 * (Int.tmod i27_1 4))).toUInt8))) (aP g15 (aP g16 (aP g17 (aP g18 aN)))) ?_
        exact ⟨_, rfl, h⟩
       ·replace h := bif_f h g20
        refine Vrs hT [0, 1] ⟨[(0, kH 0), (1, kI l1), (6, kH 1), (26, kI (4 * ((r10.2 : Nat) : Int))), (27, kI i27_1), (51, kB (((shr32 (((l0.drop 0).take r10.2).getD ((Int.tdiv i27_1 4).toNat) 0) (8 * (Int.tmod i27_1 4))).toUInt8) != 0))], [], [⟨(.ro false), 55, 1, r10.2, .w ((l0.drop 0).take r10.2)⟩, ⟨.row, 5, 1, l1.toNat, .b l6_5⟩]⟩ ?_
        refine Vi ((((shr32 (((l0.drop 0).take r10.2).getD ((Int.tdiv i27_1 4).toNat) 0) (8 * (Int.tmod i27_1 4))).toUInt8) != 0)) (fun g19 => ?_) (fun g19 => ?_)
        ·replace h := bif_t h g19
         refine Vrs hT [] ⟨[(4, .c (.nils)), (5, kE 34 (some 1))], [], []⟩ ?_
         refine Vc [.nil 4 5 1 (.b [])] [0] (pWrite_R ([], 0, (some 1))) (W_ret ?_)
         exact ⟨.inl rfl, by cases h; rfl⟩
        ·replace h := bif_f h g19
         refine Vc [] [0, 1] (pWrite_j1_E l0 l1 r10 i27_1 l6_5) (W_skip ?_)
         exact ⟨_, rfl, h⟩
     ·replace h := bif_f h g21
      refine Vc [] [1] ⟨[(6, kH 0)], [], [⟨.row, 5, 1, l1.toNat, .b l6_5⟩]⟩ (W_exit ?_)
      refine Vrs hT [0] ⟨[(4, kH 0), (5, .c (.s (.v .nilIface)))], [], [⟨.row, 5, 1, l1.toNat, .b l6_5⟩]⟩ ?_
      refine Vc [.er 5 34 .i64] [0] (pWrite_R (l6_5, l1.toNat, none)) (W_ret ?_)
      exact ⟨.inl rfl, by cases h; rfl⟩
def pMul_R (r : List UInt32 × Nat × Option Int) : S := ⟨[(4, kH 0), (5, kE 34 r.2.2)], [], [⟨(.ro true), 55, 1, r.2.1, .w r.1⟩]⟩
def pMul_ct (n : Nat) (r : List UInt32 × Nat × Option Int) : Ct := ctc (rW 55).rd fun _ l0 => ctc (rW 55).rd fun _ l1 => ct0 fun H => ([pMul n l0 l1 = some r], shA H.length (.t [.c (.wh 0), .c (.s (.er 34 .i64 r.2.2))]), shH H.length [⟨(.ro true), 55, 1, r.2.1, .w r.1⟩])
theorem pMul_ok (n : Nat) (r : List UInt32 × Nat × Option Int) : FnOk Tryd.prog Tr 47 (pMul_ct n r) := by
 refine fnok Tryd.func47 ?_
 refine HO_c (rW 55) fun l0 _ => HO_c (rW 55) fun l1 _ => HO_0 tabO_db (pMul_R r) [.tmp 4, .tmp 5] [0] 20 Tryd.func47 fun w hG h => ?_
 unfold pMul at h
 have hT := tabO_db
 refine Vrs hT [0, 1] ⟨[(0, kH 0), (1, kH 1)], [], [ow 55 l0, ow 55 l1]⟩ ?_
 obtain ⟨r10, g1, h⟩ := bind_some' h
 refine Vgs hT (fT 2 (pmay_ok n r10) fN) [] [] [2, 3] ⟨[(0, kH 0), (1, kH 1), (6, kB r10.2.2.2.2)], [], [⟨(.ro false), 55, 1, r10.2.1, .w r10.1⟩, ⟨(.ro false), 55, 1, r10.2.2.2.1, .w r10.2.2.1⟩]⟩ (aP g1 aN) ?_
 refine W_seq ?_
 refine Vrs hT [0, 1] ⟨[(0, kH 0), (1, kH 1), (15, kB (!r10.2.2.2.2))], [], [⟨(.ro false), 55, 1, r10.2.1, .w r10.1⟩, ⟨(.ro false), 55, 1, r10.2.2.2.1, .w r10.2.2.1⟩]⟩ ?_
 refine Vi ((!r10.2.2.2.2)) (fun g3 => ?_) (fun g3 => ?_)
 ·replace h := bif_t h g3
  refine Vrs hT [] ⟨[(4, .c (.nils)), (5, kE 34 (some 4))], [], []⟩ ?_
  refine Vc [.emp 4 55 1 (.w []) true] [0] (pMul_R ([], 0, (some 4))) (W_ret ?_)
  exact ⟨.inl rfl, by cases h; rfl⟩
 ·replace h := bif_f h g3
  refine W_skip ?_
  obtain ⟨r19, g2, h⟩ := bind_some' h
  refine Vgs hT (fT 2 (ptimes_ok n r19) fN) [] [] [2] ⟨[(4, kH 0), (5, .c (.s (.v .nilIface)))], [], [⟨(.ro true), 55, 1, r19.2, .w r19.1⟩]⟩ (aP g2 aN) ?_
  refine Vc [.er 5 34 .i64] [0] (pMul_R (r19.1, r19.2, none)) (W_ret ?_)
  exact ⟨.inl rfl, by cases h; rfl⟩
def pAdd_l1_E (r13 : List UInt32 × Nat × List UInt32 × Nat × Bool) (w7_1 : List UInt32) (y8_1 : UInt64) (i29_1 : Int) : S := ⟨[(0, kH 0), (1, kH 1), (7, kH 2), (8, kY y8_1), (28, kI ((((if ((r13.2.2.2.1 : Nat) : Int) > ((r13.2.1 : Nat) : Int) then ((r13.2.2.2.1 : Nat) : Int) else ((r13.2.1 : Nat) : Int)) + 1).toNat : Nat) : Int)), (29, kI i29_1)], [], [⟨(.ro false), 55, 1, r13.2.1, .w r13.1⟩, ⟨(.ro false), 55, 1, r13.2.2.2.1, .w r13.2.2.1⟩, ⟨.row, 55, 1, ((if ((r13.2.2.2.1 : Nat) : Int) > ((r13.2.1 : Nat) : Int) then ((r13.2.2.2.1 : Nat) : Int) else ((r13.2.1 : Nat) : Int)) + 1).toNat, .w w7_1⟩]⟩
abbrev pAdd_l1_P (n : Nat) (r13 : List UInt32 × Nat × List UInt32 × Nat × Bool) (r : List UInt32 × Nat × Option Int) (fu : Nat) : S → Prop := fun s => ∃ (w7_1 : List UInt32), ∃ (y8_1 : UInt64), ∃ (i29_1 : Int), s = pAdd_l1_E r13 w7_1 y8_1 i29_1 ∧ pAdd_l1 n r13 fu w7_1 y8_1 i29_1 = some r
def pAdd_R (r : List UInt32 × Nat × Option Int) : S := ⟨[(4, kH 0), (5, kE 34 r.2.2)], [], [⟨(.ro true), 55, 1, r.2.1, .w r.1⟩]⟩
def pAdd_ct (n : Nat) (r : List UInt32 × Nat × Option Int) : Ct := ctc (rW 55).rd fun _ l0 => ctc (rW 55).rd fun _ l1 => ct0 fun H => ([pAdd n l0 l1 = some r], shA H.length (.t [.c (.wh 0), .c (.s (.er 34 .i64 r.2.2))]), shH H.length [⟨(.ro true), 55, 1, r.2.1, .w r.1⟩])
theorem pAdd_ok (n : Nat) (r : List UInt32 × Nat × Option Int) : FnOk Tryd.prog Tr 45 (pAdd_ct n r) := by
 refine fnok Tryd.func45 ?_
 refine HO_c (rW 55) fun l0 _ => HO_c (rW 55) fun l1 _ => HO_0 tabO_db (pAdd_R r) [.tmp 4, .tmp 5] [0] 51 Tryd.func45 fun w hG h => ?_
 unfold pAdd at h
 have hT := tabO_db
 refine Vrs hT [0, 1] ⟨[(0, kH 0), (1, kH 1)], [], [ow 55 l0, ow 55 l1]⟩ ?_
 obtain ⟨r13, g1, h⟩ := bind_some' h
 refine Vgs hT (fT 2 (pmay_ok n r13) fN) [] [] [2, 3] ⟨[(0, kH 0), (1, kH 1), (6, kB r13.2.2.2.2)], [], [⟨(.ro false), 55, 1, r13.2.1, .w r13.1⟩, ⟨(.ro false), 55, 1, r13.2.2.2.1, .w r13.2.2.1⟩]⟩ (aP g1 aN) ?_
 refine W_seq ?_
 refine Vrs hT [0, 1] ⟨[(0, kH 0), (1, kH 1), (18, kB (!r13.2.2.2.2))], [], [⟨(.ro false), 55, 1, r13.2.1, .w r13.1⟩, ⟨(.ro false), 55, 1, r13.2.2.2.1, .w r13.2.2.1⟩]⟩ ?_
 refine Vi ((!r13.2.2.2.2)) (fun g14 => ?_) (fun g14 => ?_)
 ·replace h := bif_t h g14
  refine Vrs hT [] ⟨[(4, .c (.nils)), (5, kE 34 (some 4))], [], []⟩ ?_
  refine Vc [.emp 4 55 1 (.w []) true] [0] (pAdd_R ([], 0, (some 4))) (W_ret ?_)
  exact ⟨.inl rfl, by cases h; rfl⟩
 ·replace h := bif_f h g14
  refine W_skip ?_
  obtain ⟨g2, g3, g4, g5, h⟩ := gd4 h
  refine Vgs hT fN [] [] [0, 1, 2] ⟨[(0, kH 0), (1, kH 1), (7, kH 2), (8, kY 0)], [], [⟨(.ro false), 55, 1, r13.2.1, .w r13.1⟩, ⟨(.ro false), 55, 1, r13.2.2.2.1, .w r13.2.2.1⟩, ⟨.row, 55, 1, ((if ((r13.2.2.2.1 : Nat) : Int) > ((r13.2.1 : Nat) : Int) then ((r13.2.2.2.1 : Nat) : Int) else ((r13.2.1 : Nat) : Int)) + 1).toNat, .w (List.replicate (((if ((r13.2.2.2.1 : Nat) : Int) > ((r13.2.1 : Nat) : Int) then ((r13.2.2.2.1 : Nat) : Int) else ((r13.2.1 : Nat) : Int)) + 1).toNat) 0)⟩]⟩ (aP g2 (aP g3 (aP g4 (aP g5 aN)))) ?_
  refine W_seq ?_
  refine Vrs hT [0, 1, 2] ⟨[(0, kH 0), (1, kH 1), (7, kH 2), (8, kY 0), (28, kI ((((if ((r13.2.2.2.1 : Nat) : Int) > ((r13.2.1 : Nat) : Int) then ((r13.2.2.2.1 : Nat) : Int) else ((r13.2.1 : Nat) : Int)) + 1).toNat : Nat) : Int)), (29, kI 0)], [], [⟨(.ro false), 55, 1, r13.2.1, .w r13.1⟩, ⟨(.ro false), 55, 1, r13.2.2.2.1, .w r13.2.2.1⟩, ⟨.row, 55, 1, ((if ((r13.2.2.2.1 : Nat) : Int) > ((r13.2.1 : Nat) : Int) then ((r13.2.2.2.1 : Nat) : Int) else ((r13.2.1 : Nat) : Int)) + 1).toNat, .w (List.replicate (((if ((r13.2.2.2.1 : Nat) : Int) > ((r13.2.1 : Nat) : Int) then ((r13.2.2.2.1 : Nat) : Int) else ((r13.2.1 : Nat) : Int)) + 1).toNat) 0)⟩]⟩ ?_
  refine W_block ?_
  refine Vc [] [0, 1, 2] (pAdd_l1_E r13 (List.replicate (((if ((r13.2.2.2.1 : Nat) : Int) > ((r13.2.1 : Nat) : Int) then ((r13.2.2.2.1 : Nat) : Int) else ((r13.2.1 : Nat) : Int)) + 1).toNat) 0) 0 0) (W_lp ((pAdd_l1_P n r13 r)) n ⟨_, _, _, rfl, h⟩ ?_)
  rintro fu_l1 _ ⟨w7_1, y8_1, i29_1, rfl, h⟩
  cases fu_l1 with
  | zero => cases h
  | succ fu_l1 =>
   refine ⟨fu_l1, rfl, ?_⟩
   rw [pAdd_l1] at h
   refine Vrs hT [0, 1, 2] ⟨[(0, kH 0), (1, kH 1), (7, kH 2), (8, kY y8_1), (28, kI ((((if ((r13.2.2.2.1 : Nat) : Int) > ((r13.2.1 : Nat) : Int) then ((r13.2.2.2.1 : Nat) : Int) else ((r13.2.1 : Nat) : Int)) + 1).toNat : Nat) : Int)), (29, kI i29_1), (30, kB (decide (i29_1 < ((((if ((r13.2.2.2.1 : Nat) : Int) > ((r13.2.1 : Nat) : Int) then ((r13.2.2.2.1 : Nat) : Int) else ((r13.2.1 : Nat) : Int)) + 1).toNat : Nat) : Int))))], [], [⟨(.ro false), 55, 1, r13.2.1, .w r13.1⟩, ⟨(.ro false), 55, 1, r13.2.2.2.1, .w r13.2.2.1⟩, ⟨.row, 55, 1, ((if ((r13.2.2.2.1 : Nat) : Int) > ((r13.2.1 : Nat) : Int) then ((r13.2.2.2.1 : Nat) : Int) else ((r13.2.1 : Nat) : Int)) + 1).toNat, .w w7_1⟩]⟩ ?_
   refine W_seq ?_
   refine Vi ((decide (i29_1 < ((((if ((r13.2.2.2.1 : Nat) : Int) > ((r13.2.1 : Nat) : Int) then ((r13.2.2.2.1 : Nat) : Int) else ((r13.2.1 : Nat) : Int)) + 1).toNat : Nat) : Int)))) (fun g13 => ?_) (fun g13 => ?_)
   ·replace h := bif_t h g13
    refine W_skip ?_
    refine W_seq ?_
    refine W_block ?_
    refine Vrs hT [0, 1, 2] ⟨[(0, kH 0), (1, kH 1), (7, kH 2), (8, kY y8_1), (9, kI i29_1), (28, kI ((((if ((r13.2.2.2.1 : Nat) : Int) > ((r13.2.1 : Nat) : Int) then ((r13.2.2.2.1 : Nat) : Int) else ((r13.2.1 : Nat) : Int)) + 1).toNat : Nat) : Int)), (29, kI i29_1)], [], [⟨(.ro false), 55, 1, r13.2.1, .w r13.1⟩, ⟨(.ro false), 55, 1, r13.2.2.2.1, .w r13.2.2.1⟩, ⟨.row, 55, 1, ((if ((r13.2.2.2.1 : Nat) : Int) > ((r13.2.1 : Nat) : Int) then ((r13.2.2.2.1 : Nat) : Int) else ((r13.2.1 : Nat) : Int)) + 1).toNat, .w w7_1⟩]⟩ ?_
    obtain ⟨r35_2, g6, h⟩ := bind_some' h
    obtain ⟨r38_2, g7, h⟩ := bind_some' h
    refine Vgs hT (fT 3 (pat_ok n r35_2) (fT 6 (pat_ok n r38_2) fN)) [] [] [0, 1, 2] ⟨[(0, kH 0), (1, kH 1), (7, kH 2), (8, kY (y8_1 + (r35_2 + r38_2))), (9, kI i29_1), (28, kI ((((if ((r13.2.2.2.1 : Nat) : Int) > ((r13.2.1 : Nat) : Int) then ((r13.2.2.2.1 : Nat) : Int) else ((r13.2.1 : Nat) : Int)) + 1).toNat : Nat) : Int)), (29, kI i29_1)], [], [⟨(.ro false), 55, 1, r13.2.1, .w r13.1⟩, ⟨(.ro false), 55, 1, r13.2.2.2.1, .w r13.2.2.1⟩, ⟨.row, 55, 1, ((if ((r13.2.2.2.1 : Nat) : Int) > ((r13.2.1 : Nat) : Int) then ((r13.2.2.2.1 : Nat) : Int) else ((r13.2.1 : Nat) : Int)) + 1).toNat, .w w7_1⟩]⟩ (aP g6 (aP g7 aN)) ?_
    obtain ⟨g8, g9, g10, h⟩ := gd3 h
    refine Vg hT fN [] [] [0, 1, 2] ⟨[(0, kH 0), (1, kH 1), (7, kH 2), (8, kY (shr64 (y8_1 + (r35_2 + r38_2)) 32)), (28, kI ((((if ((r13.2.2.2.1 : Nat) : Int) > ((r13.2.1 : Nat) : Int) then ((r13.2.2.2.1 : Nat) : Int) else ((r13.2.1 : Nat) : Int)) + 1).toNat : Nat) : Int)), (29, kI i29_1)], [], [⟨(.ro false), 55, 1, r13.2.1, .w r13.1⟩, ⟨(.ro false), 55, 1, r13.2.2.2.1, .w r13.2.2.1⟩, ⟨.row, 55, 1, ((if ((r13.2.2.2.1 : Nat) : Int) > ((r13.2.1 : Nat) : Int) then ((r13.2.2.2.1 : Nat) : Int) else ((r13.2.1 : Nat) : Int)) + 1).toNat, .w (w7_1.set i29_1.toNat ((y8_1 + (r35_2 + r38_2)).toUInt32))⟩]⟩ (aP g8 (aP g9 (aP g10 aN))) ?_
    obtain ⟨g11, h⟩ := gd_some h
    refine Vg hT fN [] [] [0, 1, 2] (pAdd_l1_E r13 (w7_1.set i29_1.toNat ((y8_1 + (r35_2 + r38_2)).toUInt32)) (shr64 (y8_1 + (r35_2 + r38_2)) 32) (i29_1 + 1)) (aP g11 aN) ?_
    exact ⟨_, _, _, rfl, h⟩
   ·replace h := bif_f h g13
    refine Vc [] [2] ⟨[(7, kH 0)], [], [⟨.row, 55, 1, ((if ((r13.2.2.2.1 : Nat) : Int) > ((r13.2.1 : Nat) : Int) then ((r13.2.2.2.1 : Nat) : Int) else ((r13.2.1 : Nat) : Int)) + 1).toNat, .w w7_1⟩]⟩ (W_exit ?_)
    obtain ⟨r50_1, g12, h⟩ := bind_some' h
    refine Vgs hT (fT 1 (ptrim_ok n r50_1) fN) [] [] [0] ⟨[(4, .c (.sl 0 0 r50_1.2)), (5, .c (.s (.v .nilIface)))], [], [⟨.row, 55, 1, ((if ((r13.2.2.2.1 : Nat) : Int) > ((r13.2.1 : Nat) : Int) then ((r13.2.2.2.1 : Nat) : Int) else ((r13.2.1 : Nat) : Int)) + 1).toNat, .w w7_1⟩]⟩ (aP g12 aN) ?_
    refine Vc [.vw 4 true, .er 5 34 .i64] [1] (pAdd_R (((w7_1.drop 0).take r50_1.2), r50_1.2, none)) (W_ret ?_)
    exact ⟨.inl rfl, by cases h; rfl⟩
def ksize_l1_E (a0 : List UInt32) (i6_2 : Int) : S := ⟨[(0, kH 0), (6, kI i6_2)], [], [ow 55 a0]⟩
abbrev ksize_l1_P (n : Nat) (a0 : List UInt32) (r : Int) (fu : Nat) : S → Prop := fun s => ∃ (i6_2 : Int), s = ksize_l1_E a0 i6_2 ∧ ksize_l1 n a0 fu i6_2 = some r
def ksize_R (r : Int) : S := ⟨[(2, kI r)], [], []⟩
def ksize_ct (n : Nat) (r : Int) : Ct := ctc (rW 55).rd fun _ l0 => ct0 fun H => ([ksize n l0 = some r], shA H.length (kI r), shH H.length [])
theorem ksize_ok (n : Nat) (r : Int) : FnOk Tryd.prog Tr 29 (ksize_ct n r) := by
 refine fnok Tryd.func29 ?_
 refine HO_c (rW 55) fun l0 _ => HO_0 tabO_db (ksize_R r) [.tmp 2] [] 19 Tryd.func29 fun w hG h => ?_
 unfold ksize at h
 have hT := tabO_db
 refine Vrs hT [0] ⟨[(0, kH 0)], [], [ow 55 l0]⟩ ?_
 refine W_seq ?_
 refine Vrs hT [0] ⟨[(0, kH 0), (6, kI 0)], [], [ow 55 l0]⟩ ?_
 refine W_block ?_
 refine Vc [] [0] (ksize_l1_E l0 0) (W_lp ((ksize_l1_P n l0 r)) n ⟨_, rfl, h⟩ ?_)
 rintro fu_l1 _ ⟨i6_2, rfl, h⟩
 cases fu_l1 with
 | zero => cases h
 | succ fu_l1 =>
  refine ⟨fu_l1, rfl, ?_⟩
  rw [ksize_l1] at h
  refine Vrs hT [0] ⟨[(0, kH 0), (6, kI i6_2), (7, kB (decide (i6_2 < (129 : Int))))], [], [ow 55 l0]⟩ ?_
  refine W_seq ?_
  refine Vi ((decide (i6_2 < (129 : Int)))) (fun g4 => ?_) (fun g4 => ?_)
  ·replace h := bif_t h g4
   refine W_skip ?_
   refine W_seq ?_
   refine W_block ?_
   refine Vrs hT [0] ⟨[(0, kH 0), (3, kI i6_2), (6, kI i6_2)], [], [ow 55 l0]⟩ ?_
   obtain ⟨r12_3, g1, h⟩ := bind_some' h
   refine Vgs hT (fT 2 (pWrite_ok n r12_3) fN) [] [] [0] ⟨[(0, kH 0), (3, kI i6_2), (5, kE 34 r12_3.2.2), (6, kI i6_2)], [], [ow 55 l0]⟩ (aP g1 aN) ?_
   refine Vrs hT [0] ⟨[(0, kH 0), (3, kI i6_2), (6, kI i6_2), (16, kB ((r12_3.2.2).isNone))], [], [ow 55 l0]⟩ ?_
   refine Vi ((r12_3.2.2).isNone) (fun g3 => ?_) (fun g3 => ?_)
   ·replace h := bif_t h g3
    refine Vrs hT [] ⟨[(2, kI i6_2)], [], []⟩ ?_
    refine Vc [] [] (ksize_R i6_2) (W_ret ?_)
    exact ⟨.inl rfl, by cases h; rfl⟩
   ·replace h := bif_f h g3
    refine W_skip ?_
    obtain ⟨g2, h⟩ := gd_some h
    refine Vg hT fN [] [] [0] (ksize_l1_E l0 (i6_2 + 1)) (aP g2 aN) ?_
    exact ⟨_, rfl, h⟩
  ·replace h := bif_f h g4
   refine Vc [] [] ⟨[], [], []⟩ (W_exit ?_)
   refine Vrs hT [] ⟨[(2, kI (-1))], [], []⟩ ?_
   refine Vc [] [] (ksize_R (-1)) (W_ret ?_)
   exact ⟨.inl rfl, by cases h; rfl⟩
def kodd_R (r : Bool) : S := ⟨[(2, kB r)], [], []⟩
def kodd_ct (n : Nat) (r : Bool) : Ct := ctc (rW 55).rd fun _ l0 => ct0 fun H => ([kodd n l0 = some r], shA H.length (kB r), shH H.length [])
theorem kodd_ok (n : Nat) (r : Bool) : FnOk Tryd.prog Tr 43 (kodd_ct n r) := by
 refine fnok Tryd.func43 ?_
 refine HO_c (rW 55) fun l0 _ => HO_0 tabO_db (kodd_R r) [.tmp 2] [] 13 Tryd.func43 fun w hG h => ?_
 unfold kodd at h
 have hT := tabO_db
 refine Vrs hT [0] ⟨[(0, kH 0)], [], [ow 55 l0]⟩ ?_
 refine W_seq ?_
 rcases Bool.eq_false_or_eq_true (decide ((0 : Int) < ((l0.length : Nat) : Int))) with g1 | g1
 ·replace h := bif_t h g1
  obtain ⟨g2, g3, h⟩ := gd2 h
  refine Vg hT fN [(3, true)] [] [] ⟨[(2, kB (((l0.getD 0 0) &&& (1 : UInt32)) == 1))], [], []⟩ (aP g1 (aP g2 (aP g3 aN))) ?_
  refine Vc [] [] (kodd_R (((l0.getD 0 0) &&& (1 : UInt32)) == 1)) (W_ret ?_)
  exact ⟨.inl rfl, by cases h; rfl⟩
 ·replace h := bif_f h g1
  refine Vg hT fN [(3, false)] [] [] ⟨[(2, kB false)], [], []⟩ (aP g1 aN) ?_
  refine Vc [] [] (kodd_R false) (W_ret ?_)
  exact ⟨.inl rfl, by cases h; rfl⟩
def kCheck_R (r : Option Int) : S := ⟨[(2, kE 34 r)], [], []⟩
def kCheck_ct (n : Nat) (r : Option Int) : Ct := ctc (rSt (lC (cW 55) (lC (cW 55) lN))).rd fun _ y0 => ct0 fun H => ([kCheck n y0.1 y0.2.1 = some r], shA H.length (kE 34 r), shH H.length [])
theorem kCheck_ok (n : Nat) (r : Option Int) : FnOk Tryd.prog Tr 24 (kCheck_ct n r) := by
 refine fnok Tryd.func24 ?_
 refine HO_c (rSt (lC (cW 55) (lC (cW 55) lN))) fun p0 _ => ?_
 obtain ⟨l0_0, l0_1, _⟩ := p0
 refine HO_0 tabO_db (kCheck_R r) [.tmp 2] [] 37 Tryd.func24 fun w hG h => ?_
 have h : kCheck n l0_0 l0_1 = some r := h
 unfold kCheck at h
 have hT := tabO_db
 refine Vrs hT [2, 0, 1] ⟨[(1, kP 0 0)], [], [⟨.blk, 40, 1, 2, .c [.wh 1, .wh 2]⟩, ow 55 l0_0, ow 55 l0_1]⟩ ?_
 obtain ⟨r6, g1, h⟩ := bind_some' h
 refine Vgs hT (fT 2 (ksize_ok n r6) fN) [] [] [0, 1, 2] ⟨[(1, kP 0 0), (3, kI r6)], [], [⟨.blk, 40, 1, 2, .c [.wh 1, .wh 2]⟩, ow 55 l0_0, ow 55 l0_1]⟩ (aP g1 aN) ?_
 refine W_seq ?_
 refine W_seq ?_
 rcases Bool.eq_false_or_eq_true (decide (r6 < (62 : Int))) with g2 | g2
 ·replace h := bif_t h g2
  refine Vg hT fN [(2, true)] [] [] ⟨[(35, kB true)], [], []⟩ (aP g2 aN) ?_
  refine Vi (true) (fun _ => ?_) (fun hb => by cases hb)
  refine Vrs hT [] ⟨[(2, kE 34 (some 1))], [], []⟩ ?_
  refine Vc [] [] (kCheck_R (some 1)) (W_ret ?_)
  exact ⟨.inl rfl, by cases h; rfl⟩
 ·replace h := bif_f h g2
  obtain ⟨r12, g3, h⟩ := bind_some' h
  rcases Bool.eq_false_or_eq_true (!r12) with g4 | g4
  ·replace h := bif_t h g4
   refine Vg hT (fT 5 (kodd_ok n r12) fN) [(2, false), (8, true)] [] [] ⟨[(35, kB true)], [], []⟩ (aP g2 (aP g3 (aP g4 aN))) ?_
   refine Vi (true) (fun _ => ?_) (fun hb => by cases hb)
   refine Vrs hT [] ⟨[(2, kE 34 (some 1))], [], []⟩ ?_
   refine Vc [] [] (kCheck_R (some 1)) (W_ret ?_)
   exact ⟨.inl rfl, by cases h; rfl⟩
  ·replace h := bif_f h g4
   obtain ⟨r18, g5, h⟩ := bind_some' h
   rcases Bool.eq_false_or_eq_true (!r18) with g6 | g6
   ·replace h := bif_t h g6
    refine Vg hT (fT 5 (kodd_ok n r12) (fT 11 (kodd_ok n r18) fN)) [(2, false), (8, false), (14, true)] [] [] ⟨[(35, kB true)], [], []⟩ (aP g2 (aP g3 (aP g4 (aP g5 (aP g6 aN))))) ?_
    refine Vi (true) (fun _ => ?_) (fun hb => by cases hb)
    refine Vrs hT [] ⟨[(2, kE 34 (some 1))], [], []⟩ ?_
    refine Vc [] [] (kCheck_R (some 1)) (W_ret ?_)
    exact ⟨.inl rfl, by cases h; rfl⟩
   ·replace h := bif_f h g6
    obtain ⟨r25, g7, h⟩ := bind_some' h
    rcases Bool.eq_false_or_eq_true (decide (r25 < (0 : Int))) with g8 | g8
    ·replace h := bif_t h g8
     refine Vg hT (fT 5 (kodd_ok n r12) (fT 11 (kodd_ok n r18) (fT 18 (pCmp_ok n r25) fN))) [(2, false), (8, false), (14, false), (21, true)] [] [] ⟨[(35, kB true)], [], []⟩ (aP g2 (aP g3 (aP g4 (aP g5 (aP g6 (aP g7 (aP g8 aN))))))) ?_
     refine Vi (true) (fun _ => ?_) (fun hb => by cases hb)
     refine Vrs hT [] ⟨[(2, kE 34 (some 1))], [], []⟩ ?_
     refine Vc [] [] (kCheck_R (some 1)) (W_ret ?_)
     exact ⟨.inl rfl, by cases h; rfl⟩
    ·replace h := bif_f h g8
     obtain ⟨r33, g9, h⟩ := bind_some' h
     refine Vg hT (fT 5 (kodd_ok n r12) (fT 11 (kodd_ok n r18) (fT 18 (pCmp_ok n r25) (fT 26 (pCmp_ok n r33) fN)))) [(2, false), (8, false), (14, false), (21, false)] [] [] ⟨[(35, kB (decide ((0 : Int) ≤ r33)))], [], []⟩ (aP g2 (aP g3 (aP g4 (aP g5 (aP g6 (aP g7 (aP g8 (aP g9 aN)))))))) ?_
     refine Vi ((decide ((0 : Int) ≤ r33))) (fun g10 => ?_) (fun g10 => ?_)
     ·replace h := bif_t h g10
      refine Vrs hT [] ⟨[(2, kE 34 (some 1))], [], []⟩ ?_
      refine Vc [] [] (kCheck_R (some 1)) (W_ret ?_)
      exact ⟨.inl rfl, by cases h; rfl⟩
     ·replace h := bif_f h g10
      refine W_skip ?_
      refine Vrs hT [] ⟨[(2, .c (.s (.v .nilIface)))], [], []⟩ ?_
      refine Vc [.er 2 34 .i64] [] (kCheck_R none) (W_ret ?_)
      exact ⟨.inl rfl, by cases h; rfl⟩
def ksecret_R (r : Option Int) : S := ⟨[(2, kE 34 r)], [], []⟩
def ksecret_ct (n : Nat) (r : Option Int) : Ct := ctc (rSt (lC (cW 55) (lC (cW 55) (lC (cW 55) lN)))).rd fun _ y0 => ct0 fun H => ([ksecret n y0.1 y0.2.1 y0.2.2.1 = some r], shA H.length (kE 34 r), shH H.length [])
theorem ksecret_ok (n : Nat) (r : Option Int) : FnOk Tryd.prog Tr 26 (ksecret_ct n r) := by
 refine fnok Tryd.func26 ?_
 refine HO_c (rSt (lC (cW 55) (lC (cW 55) (lC (cW 55) lN)))) fun p0 _ => ?_
 obtain ⟨l0_0, l0_1, l0_2, _⟩ := p0
 refine HO_0 tabO_db (ksecret_R r) [.tmp 2] [] 25 Tryd.func26 fun w hG h => ?_
 have h : ksecret n l0_0 l0_1 l0_2 = some r := h
 unfold ksecret at h
 have hT := tabO_db
 refine Vrs hT [3, 0, 1, 2] ⟨[(1, kP 0 0)], [], [⟨.blk, 25, 1, 3, .c [.wh 1, .wh 2, .wh 3]⟩, ow 55 l0_0, ow 55 l0_1, ow 55 l0_2]⟩ ?_
 refine W_seq ?_
 refine W_seq ?_
 obtain ⟨r8, g1, h⟩ := bind_some' h
 rcases Bool.eq_false_or_eq_true (!((r8).isNone)) with g2 | g2
 ·replace h := bif_t h g2
  refine Vg hT (fT 5 (kCheck_ok n r8) fN) [(7, true)] [] [] ⟨[(23, kB true)], [], []⟩ (aP g1 (aP g2 aN)) ?_
  refine Vi (true) (fun _ => ?_) (fun hb => by cases hb)
  refine Vrs hT [] ⟨[(2, kE 34 (some 1))], [], []⟩ ?_
  refine Vc [] [] (ksecret_R (some 1)) (W_ret ?_)
  exact ⟨.inl rfl, by cases h; rfl⟩
 ·replace h := bif_f h g2
  obtain ⟨r13, g3, h⟩ := bind_some' h
  rcases Bool.eq_false_or_eq_true (r13 == 0) with g4 | g4
  ·replace h := bif_t h g4
   refine Vg hT (fT 5 (kCheck_ok n r8) (fT 10 (pCmp_ok n r13) fN)) [(7, false), (13, true)] [] [] ⟨[(23, kB true)], [], []⟩ (aP g1 (aP g2 (aP g3 (aP g4 aN)))) ?_
   refine Vi (true) (fun _ => ?_) (fun hb => by cases hb)
   refine Vrs hT [] ⟨[(2, kE 34 (some 1))], [], []⟩ ?_
   refine Vc [] [] (ksecret_R (some 1)) (W_ret ?_)
   exact ⟨.inl rfl, by cases h; rfl⟩
  ·replace h := bif_f h g4
   obtain ⟨r21, g5, h⟩ := bind_some' h
   refine Vg hT (fT 5 (kCheck_ok n r8) (fT 10 (pCmp_ok n r13) (fT 18 (pCmp_ok n r21) fN))) [(7, false), (13, false)] [] [] ⟨[(23, kB (decide ((0 : Int) ≤ r21)))], [], []⟩ (aP g1 (aP g2 (aP g3 (aP g4 (aP g5 aN))))) ?_
   refine Vi ((decide ((0 : Int) ≤ r21))) (fun g6 => ?_) (fun g6 => ?_)
   ·replace h := bif_t h g6
    refine Vrs hT [] ⟨[(2, kE 34 (some 1))], [], []⟩ ?_
    refine Vc [] [] (ksecret_R (some 1)) (W_ret ?_)
    exact ⟨.inl rfl, by cases h; rfl⟩
   ·replace h := bif_f h g6
    refine W_skip ?_
    refine Vrs hT [] ⟨[(2, .c (.s (.v .nilIface)))], [], []⟩ ?_
    refine Vc [.er 2 34 .i64] [] (ksecret_R none) (W_ret ?_)
    exact ⟨.inl rfl, by cases h; rfl⟩
def kPair_R (r : List UInt32 × Nat × List UInt32 × Nat × List UInt32 × Option Int) : S := ⟨[(6, kP 0 0), (7, kE 34 r.2.2.2.2.2)], [], [⟨.blk, 25, 1, 3, .c [.wh 1, .wh 2, .wh 3]⟩, ⟨(.ro true), 55, 1, r.2.1, .w r.1⟩, ⟨(.ro true), 55, 1, r.2.2.2.1, .w r.2.2.1⟩, nw 55 r.2.2.2.2.1]⟩
def kPair_ct (n : Nat) (r : List UInt32 × Nat × List UInt32 × Nat × List UInt32 × Option Int) : Ct := ctc (rW 55).rd fun _ l0 => ctc (rW 55).rd fun _ l1 => ctc (rW 55).rd fun _ l2 => ct0 fun H => ([kPair n l0 l1 l2 = some r], shA H.length (.t [.g 3 (.c [.wh 0, .wh 1, .wh 2]), .c (.s (.er 34 .i64 r.2.2.2.2.2))]), shH H.length [⟨(.ro true), 55, 1, r.2.1, .w r.1⟩, ⟨(.ro true), 55, 1, r.2.2.2.1, .w r.2.2.1⟩, nw 55 r.2.2.2.2.1])
theorem kPair_ok (n : Nat) (r : List UInt32 × Nat × List UInt32 × Nat × List UInt32 × Option Int) : FnOk Tryd.prog Tr 25 (kPair_ct n r) := by
 refine fnok Tryd.func25 ?_
 refine HO_c (rW 55) fun l0 _ => HO_c (rW 55) fun l1 _ => HO_c (rW 55) fun l2 _ => HO_0 tabO_db (kPair_R r) [.cell 6 25, .tmp 7] [1, 2, 3] 133 Tryd.func25 fun w hG h => ?_
 unfold kPair at h
 have hT := tabO_db
 refine Vrs hT [0, 1, 2, 3] ⟨[(0, kH 0), (1, kH 1), (2, kH 2), (6, kP 3 0)], [], [ow 55 l0, ow 55 l1, ow 55 l2, ⟨.blk, 25, 1, 3, .c [.nils, .nils, .nils]⟩]⟩ ?_
 refine Vrs hT [0, 1, 2, 3, 4] ⟨[(0, kH 0), (1, kH 1), (2, kH 2), (6, kP 3 0), (8, kH 4)], [], [ow 55 l0, ow 55 l1, ow 55 l2, ⟨.blk, 25, 1, 3, .c [.nils, .nils, .nils]⟩, ⟨.row, 55, 1, 1, .w [1]⟩]⟩ ?_
 refine W_seq ?_
 refine Vrs hT [0, 1, 2, 3, 4] ⟨[(0, kH 0), (1, kH 1), (2, kH 2), (6, kP 3 0), (8, kH 4), (30, .g 3 (.c [.wh 0, .wh 1, .wh 2])), (31, kI 0)], [], [ow 55 l0, ow 55 l1, ow 55 l2, ⟨.blk, 25, 1, 3, .c [.nils, .nils, .nils]⟩, ⟨.row, 55, 1, 1, .w [1]⟩]⟩ ?_
 refine W_block ?_
 refine W_loop 4 ?_
 refine WL_succ ?_
 refine Vrs hT [0, 1, 2, 3, 4] ⟨[(0, kH 0), (1, kH 1), (2, kH 2), (6, kP 3 0), (8, kH 4), (30, .g 3 (.c [.wh 0, .wh 1, .wh 2])), (31, kI 0), (32, kB true)], [], [ow 55 l0, ow 55 l1, ow 55 l2, ⟨.blk, 25, 1, 3, .c [.nils, .nils, .nils]⟩, ⟨.row, 55, 1, 1, .w [1]⟩]⟩ ?_
 refine W_seq ?_
 refine Vi (true) (fun _ => ?_) (fun hb => by cases hb)
 refine W_skip ?_
 refine W_seq ?_
 refine W_block ?_
 obtain ⟨g1, g2, h⟩ := gd2 h
 refine Vgs hT fN [] [] [0, 1, 2, 3, 4] ⟨[(0, kH 0), (1, kH 1), (2, kH 2), (6, kP 3 0), (8, kH 4), (10, kH 0), (30, .g 3 (.c [.wh 0, .wh 1, .wh 2])), (31, kI 0)], [], [ow 55 l0, ow 55 l1, ow 55 l2, ⟨.blk, 25, 1, 3, .c [.nils, .nils, .nils]⟩, ⟨.row, 55, 1, 1, .w [1]⟩]⟩ (aP g1 (aP g2 aN)) ?_
 obtain ⟨r36, g3, h⟩ := bind_some' h
 refine Vgs hT (fT 1 (pAdd_ok n r36) fN) [] [] [0, 1, 2, 3, 4] ⟨[(0, kH 0), (1, kH 1), (2, kH 2), (6, kP 3 0), (8, kH 4), (12, kE 34 r36.2.2), (30, .g 3 (.c [.wh 0, .wh 1, .wh 2])), (31, kI 0)], [], [ow 55 l0, ow 55 l1, ow 55 l2, ⟨.blk, 25, 1, 3, .c [.nils, .nils, .nils]⟩, ⟨.row, 55, 1, 1, .w [1]⟩]⟩ (aP g3 aN) ?_
 refine Vrs hT [0, 1, 2, 3, 4] ⟨[(0, kH 0), (1, kH 1), (2, kH 2), (6, kP 3 0), (8, kH 4), (12, kE 34 r36.2.2), (30, .g 3 (.c [.wh 0, .wh 1, .wh 2])), (31, kI 0), (40, kB (!((r36.2.2).isNone)))], [], [ow 55 l0, ow 55 l1, ow 55 l2, ⟨.blk, 25, 1, 3, .c [.nils, .nils, .nils]⟩, ⟨.row, 55, 1, 1, .w [1]⟩]⟩ ?_
 refine Vi ((!((r36.2.2).isNone))) (fun g53 => ?_) (fun g53 => ?_)
 ·replace h := bif_t h g53
  refine Vrs hT [3] ⟨[(6, kP 0 0), (7, kE 34 r36.2.2)], [], [⟨.blk, 25, 1, 3, .c [.nils, .nils, .nils]⟩]⟩ ?_
  refine Vc [.nlc 0 0 55 1 (.w []) (some true), .nlc 0 1 55 1 (.w []) (some true), .nlc 0 2 55 1 (.w []) none] [0, 1, 2, 3] (kPair_R ([], 0, [], 0, [], r36.2.2)) (W_ret ?_)
  exact ⟨.inl rfl, by cases h; rfl⟩
 ·replace h := bif_f h g53
  refine W_skip ?_
  obtain ⟨g4, h⟩ := gd_some h
  refine Vg hT fN [] [] [0, 1, 2, 3, 4] ⟨[(0, kH 0), (1, kH 1), (2, kH 2), (6, kP 3 0), (8, kH 4), (30, .g 3 (.c [.wh 0, .wh 1, .wh 2])), (31, kI 1)], [], [ow 55 l0, ow 55 l1, ow 55 l2, ⟨.blk, 25, 1, 3, .c [.nils, .nils, .nils]⟩, ⟨.row, 55, 1, 1, .w [1]⟩]⟩ (aP g4 aN) ?_
  refine WL_succ ?_
  refine Vrs hT [0, 1, 2, 3, 4] ⟨[(0, kH 0), (1, kH 1), (2, kH 2), (6, kP 3 0), (8, kH 4), (30, .g 3 (.c [.wh 0, .wh 1, .wh 2])), (31, kI 1), (32, kB true)], [], [ow 55 l0, ow 55 l1, ow 55 l2, ⟨.blk, 25, 1, 3, .c [.nils, .nils, .nils]⟩, ⟨.row, 55, 1, 1, .w [1]⟩]⟩ ?_
  refine W_seq ?_
  refine Vi (true) (fun _ => ?_) (fun hb => by cases hb)
  refine W_skip ?_
  refine W_seq ?_
  refine W_block ?_
  obtain ⟨g5, g6, h⟩ := gd2 h
  refine Vgs hT fN [] [] [0, 1, 2, 3, 4] ⟨[(0, kH 0), (1, kH 1), (2, kH 2), (6, kP 3 0), (8, kH 4), (10, kH 1), (30, .g 3 (.c [.wh 0, .wh 1, .wh 2])), (31, kI 1)], [], [ow 55 l0, ow 55 l1, ow 55 l2, ⟨.blk, 25, 1, 3, .c [.nils, .nils, .nils]⟩, ⟨.row, 55, 1, 1, .w [1]⟩]⟩ (aP g5 (aP g6 aN)) ?_
  obtain ⟨r36_1, g7, h⟩ := bind_some' h
  refine Vgs hT (fT 1 (pAdd_ok n r36_1) fN) [] [] [0, 1, 2, 3, 4] ⟨[(0, kH 0), (1, kH 1), (2, kH 2), (6, kP 3 0), (8, kH 4), (12, kE 34 r36_1.2.2), (30, .g 3 (.c [.wh 0, .wh 1, .wh 2])), (31, kI 1)], [], [ow 55 l0, ow 55 l1, ow 55 l2, ⟨.blk, 25, 1, 3, .c [.nils, .nils, .nils]⟩, ⟨.row, 55, 1, 1, .w [1]⟩]⟩ (aP g7 aN) ?_
  refine Vrs hT [0, 1, 2, 3, 4] ⟨[(0, kH 0), (1, kH 1), (2, kH 2), (6, kP 3 0), (8, kH 4), (12, kE 34 r36_1.2.2), (30, .g 3 (.c [.wh 0, .wh 1, .wh 2])), (31, kI 1), (40, kB (!((r36_1.2.2).isNone)))], [], [ow 55 l0, ow 55 l1, ow 55 l2, ⟨.blk, 25, 1, 3, .c [.nils, .nils, .nils]⟩, ⟨.row, 55, 1, 1, .w [1]⟩]⟩ ?_
  refine Vi ((!((r36_1.2.2).isNone))) (fun g52 => ?_) (fun g52 => ?_)
  ·replace h := bif_t h g52
   refine Vrs hT [3] ⟨[(6, kP 0 0), (7, kE 34 r36_1.2.2)], [], [⟨.blk, 25, 1, 3, .c [.nils, .nils, .nils]⟩]⟩ ?_
   refine Vc [.nlc 0 0 55 1 (.w []) (some true), .nlc 0 1 55 1 (.w []) (some true), .nlc 0 2 55 1 (.w []) none] [0, 1, 2, 3] (kPair_R ([], 0, [], 0, [], r36_1.2.2)) (W_ret ?_)
   exact ⟨.inl rfl, by cases h; rfl⟩
  ·replace h := bif_f h g52
   refine W_skip ?_
   obtain ⟨g8, h⟩ := gd_some h
   refine Vg hT fN [] [] [0, 1, 2, 3, 4] ⟨[(0, kH 0), (1, kH 1), (2, kH 2), (6, kP 3 0), (8, kH 4), (30, .g 3 (.c [.wh 0, .wh 1, .wh 2])), (31, kI 2)], [], [ow 55 l0, ow 55 l1, ow 55 l2, ⟨.blk, 25, 1, 3, .c [.nils, .nils, .nils]⟩, ⟨.row, 55, 1, 1, .w [1]⟩]⟩ (aP g8 aN) ?_
   refine WL_succ ?_
   refine Vrs hT [0, 1, 2, 3, 4] ⟨[(0, kH 0), (1, kH 1), (2, kH 2), (6, kP 3 0), (8, kH 4), (30, .g 3 (.c [.wh 0, .wh 1, .wh 2])), (31, kI 2), (32, kB true)], [], [ow 55 l0, ow 55 l1, ow 55 l2, ⟨.blk, 25, 1, 3, .c [.nils, .nils, .nils]⟩, ⟨.row, 55, 1, 1, .w [1]⟩]⟩ ?_
   refine W_seq ?_
   refine Vi (true) (fun _ => ?_) (fun hb => by cases hb)
   refine W_skip ?_
   refine W_seq ?_
   refine W_block ?_
   obtain ⟨g9, g10, h⟩ := gd2 h
   refine Vgs hT fN [] [] [0, 1, 2, 3, 4] ⟨[(0, kH 0), (1, kH 1), (2, kH 2), (6, kP 3 0), (8, kH 4), (10, kH 2), (30, .g 3 (.c [.wh 0, .wh 1, .wh 2])), (31, kI 2)], [], [ow 55 l0, ow 55 l1, ow 55 l2, ⟨.blk, 25, 1, 3, .c [.nils, .nils, .nils]⟩, ⟨.row, 55, 1, 1, .w [1]⟩]⟩ (aP g9 (aP g10 aN)) ?_
   obtain ⟨r36_2, g11, h⟩ := bind_some' h
   refine Vgs hT (fT 1 (pAdd_ok n r36_2) fN) [] [] [0, 1, 2, 3, 4] ⟨[(0, kH 0), (1, kH 1), (2, kH 2), (6, kP 3 0), (8, kH 4), (12, kE 34 r36_2.2.2), (30, .g 3 (.c [.wh 0, .wh 1, .wh 2])), (31, kI 2)], [], [ow 55 l0, ow 55 l1, ow 55 l2, ⟨.blk, 25, 1, 3, .c [.nils, .nils, .nils]⟩, ⟨.row, 55, 1, 1, .w [1]⟩]⟩ (aP g11 aN) ?_
   refine Vrs hT [0, 1, 2, 3, 4] ⟨[(0, kH 0), (1, kH 1), (2, kH 2), (6, kP 3 0), (8, kH 4), (12, kE 34 r36_2.2.2), (30, .g 3 (.c [.wh 0, .wh 1, .wh 2])), (31, kI 2), (40, kB (!((r36_2.2.2).isNone)))], [], [ow 55 l0, ow 55 l1, ow 55 l2, ⟨.blk, 25, 1, 3, .c [.nils, .nils, .nils]⟩, ⟨.row, 55, 1, 1, .w [1]⟩]⟩ ?_
   refine Vi ((!((r36_2.2.2).isNone))) (fun g51 => ?_) (fun g51 => ?_)
   ·replace h := bif_t h g51
    refine Vrs hT [3] ⟨[(6, kP 0 0), (7, kE 34 r36_2.2.2)], [], [⟨.blk, 25, 1, 3, .c [.nils, .nils, .nils]⟩]⟩ ?_
    refine Vc [.nlc 0 0 55 1 (.w []) (some true), .nlc 0 1 55 1 (.w []) (some true), .nlc 0 2 55 1 (.w []) none] [0, 1, 2, 3] (kPair_R ([], 0, [], 0, [], r36_2.2.2)) (W_ret ?_)
    exact ⟨.inl rfl, by cases h; rfl⟩
   ·replace h := bif_f h g51
    refine W_skip ?_
    obtain ⟨g12, h⟩ := gd_some h
    refine Vg hT fN [] [] [0, 1, 2, 3, 4] ⟨[(0, kH 0), (1, kH 1), (2, kH 2), (6, kP 3 0), (8, kH 4), (30, .g 3 (.c [.wh 0, .wh 1, .wh 2])), (31, kI 3)], [], [ow 55 l0, ow 55 l1, ow 55 l2, ⟨.blk, 25, 1, 3, .c [.nils, .nils, .nils]⟩, ⟨.row, 55, 1, 1, .w [1]⟩]⟩ (aP g12 aN) ?_
    refine WL_succ ?_
    refine Vrs hT [0, 1, 2, 3, 4] ⟨[(0, kH 0), (1, kH 1), (2, kH 2), (6, kP 3 0), (8, kH 4), (30, .g 3 (.c [.wh 0, .wh 1, .wh 2])), (31, kI 3), (32, kB false)], [], [ow 55 l0, ow 55 l1, ow 55 l2, ⟨.blk, 25, 1, 3, .c [.nils, .nils, .nils]⟩, ⟨.row, 55, 1, 1, .w [1]⟩]⟩ ?_
    refine W_seq ?_
    refine Vi (false) (fun hb => by cases hb) (fun _ => ?_)
    refine Vc [] [0, 1, 2, 3, 4] ⟨[(0, kH 0), (1, kH 1), (2, kH 2), (6, kP 3 0), (8, kH 4)], [], [ow 55 l0, ow 55 l1, ow 55 l2, ⟨.blk, 25, 1, 3, .c [.nils, .nils, .nils]⟩, ⟨.row, 55, 1, 1, .w [1]⟩]⟩ (W_exit ?_)
    refine Vrs hT [0, 1, 2, 3, 4, 5] ⟨[(0, kH 0), (1, kH 1), (2, kH 2), (6, kP 3 0), (8, kH 4), (13, kP 5 0)], [], [ow 55 l0, ow 55 l1, ow 55 l2, ⟨.blk, 25, 1, 3, .c [.nils, .nils, .nils]⟩, ⟨.row, 55, 1, 1, .w [1]⟩, ⟨.blk, 79, 1, 2, .c [.nils, .nils]⟩]⟩ ?_
    refine W_seq ?_
    refine Vrs hT [0, 1, 2, 3, 4, 5] ⟨[(0, kH 0), (1, kH 1), (2, kH 2), (6, kP 3 0), (8, kH 4), (13, kP 5 0), (46, .g 2 (.c [.wh 0, .wh 1])), (47, kI 0)], [], [ow 55 l0, ow 55 l1, ow 55 l2, ⟨.blk, 25, 1, 3, .c [.nils, .nils, .nils]⟩, ⟨.row, 55, 1, 1, .w [1]⟩, ⟨.blk, 79, 1, 2, .c [.nils, .nils]⟩]⟩ ?_
    refine W_block ?_
    refine W_loop 4 ?_
    refine WL_succ ?_
    refine Vrs hT [0, 1, 2, 3, 4, 5] ⟨[(0, kH 0), (1, kH 1), (2, kH 2), (6, kP 3 0), (8, kH 4), (13, kP 5 0), (46, .g 2 (.c [.wh 0, .wh 1])), (47, kI 0), (48, kB true)], [], [ow 55 l0, ow 55 l1, ow 55 l2, ⟨.blk, 25, 1, 3, .c [.nils, .nils, .nils]⟩, ⟨.row, 55, 1, 1, .w [1]⟩, ⟨.blk, 79, 1, 2, .c [.nils, .nils]⟩]⟩ ?_
    refine W_seq ?_
    refine Vi (true) (fun _ => ?_) (fun hb => by cases hb)
    refine W_skip ?_
    refine W_seq ?_
    refine W_block ?_
    obtain ⟨g13, g14, h⟩ := gd2 h
    refine Vgs hT fN [] [] [0, 1, 2, 3, 4, 5] ⟨[(0, kH 0), (1, kH 1), (2, kH 2), (6, kP 3 0), (8, kH 4), (13, kP 5 0), (14, kI 0), (15, kH 0), (46, .g 2 (.c [.wh 0, .wh 1])), (47, kI 0)], [], [ow 55 l0, ow 55 l1, ow 55 l2, ⟨.blk, 25, 1, 3, .c [.nils, .nils, .nils]⟩, ⟨.row, 55, 1, 1, .w [1]⟩, ⟨.blk, 79, 1, 2, .c [.nils, .nils]⟩]⟩ (aP g13 (aP g14 aN)) ?_
    obtain ⟨r52, g15, h⟩ := bind_some' h
    refine Vgs hT (fT 1 (ksize_ok n r52) fN) [] [] [0, 1, 2, 3, 4, 5] ⟨[(0, kH 0), (1, kH 1), (2, kH 2), (6, kP 3 0), (8, kH 4), (13, kP 5 0), (14, kI 0), (15, kH 0), (16, kI r52), (46, .g 2 (.c [.wh 0, .wh 1])), (47, kI 0)], [], [ow 55 l0, ow 55 l1, ow 55 l2, ⟨.blk, 25, 1, 3, .c [.nils, .nils, .nils]⟩, ⟨.row, 55, 1, 1, .w [1]⟩, ⟨.blk, 79, 1, 2, .c [.nils, .nils]⟩]⟩ (aP g15 aN) ?_
    refine W_seq ?_
    refine W_seq ?_
    obtain ⟨r55, g16, h⟩ := bind_some' h
    rcases Bool.eq_false_or_eq_true (decide (r55 < (0 : Int))) with g17 | g17
    ·replace h := bif_t h g17
     refine Vg hT (fT 2 (pCmp_ok n r55) fN) [(4, true)] [] [0, 1, 2, 3, 4, 5] ⟨[(0, kH 0), (1, kH 1), (2, kH 2), (6, kP 3 0), (8, kH 4), (13, kP 5 0), (14, kI 0), (15, kH 0), (46, .g 2 (.c [.wh 0, .wh 1])), (47, kI 0), (64, kB true)], [], [ow 55 l0, ow 55 l1, ow 55 l2, ⟨.blk, 25, 1, 3, .c [.nils, .nils, .nils]⟩, ⟨.row, 55, 1, 1, .w [1]⟩, ⟨.blk, 79, 1, 2, .c [.nils, .nils]⟩]⟩ (aP g16 (aP g17 aN)) ?_
     refine Vi (true) (fun _ => ?_) (fun hb => by cases hb)
     refine Vrs hT [3] ⟨[(6, kP 0 0), (7, kE 34 (some 1))], [], [⟨.blk, 25, 1, 3, .c [.nils, .nils, .nils]⟩]⟩ ?_
     refine Vc [.nlc 0 0 55 1 (.w []) (some true), .nlc 0 1 55 1 (.w []) (some true), .nlc 0 2 55 1 (.w []) none] [0, 1, 2, 3] (kPair_R ([], 0, [], 0, [], (some 1))) (W_ret ?_)
     exact ⟨.inl rfl, by cases h; rfl⟩
    ·replace h := bif_f h g17
     rcases Bool.eq_false_or_eq_true (decide (r52 < (0 : Int))) with g18 | g18
     ·replace h := bif_t h g18
      refine Vg hT (fT 2 (pCmp_ok n r55) fN) [(4, false), (8, true)] [] [0, 1, 2, 3, 4, 5] ⟨[(0, kH 0), (1, kH 1), (2, kH 2), (6, kP 3 0), (8, kH 4), (13, kP 5 0), (14, kI 0), (15, kH 0), (46, .g 2 (.c [.wh 0, .wh 1])), (47, kI 0), (64, kB true)], [], [ow 55 l0, ow 55 l1, ow 55 l2, ⟨.blk, 25, 1, 3, .c [.nils, .nils, .nils]⟩, ⟨.row, 55, 1, 1, .w [1]⟩, ⟨.blk, 79, 1, 2, .c [.nils, .nils]⟩]⟩ (aP g16 (aP g17 (aP g18 aN))) ?_
      refine Vi (true) (fun _ => ?_) (fun hb => by cases hb)
      refine Vrs hT [3] ⟨[(6, kP 0 0), (7, kE 34 (some 1))], [], [⟨.blk, 25, 1, 3, .c [.nils, .nils, .nils]⟩]⟩ ?_
      refine Vc [.nlc 0 0 55 1 (.w []) (some true), .nlc 0 1 55 1 (.w []) (some true), .nlc 0 2 55 1 (.w []) none] [0, 1, 2, 3] (kPair_R ([], 0, [], 0, [], (some 1))) (W_ret ?_)
      exact ⟨.inl rfl, by cases h; rfl⟩
     ·replace h := bif_f h g18
      refine Vg hT (fT 2 (pCmp_ok n r55) fN) [(4, false), (8, false)] [] [0, 1, 2, 3, 4, 5] ⟨[(0, kH 0), (1, kH 1), (2, kH 2), (6, kP 3 0), (8, kH 4), (13, kP 5 0), (14, kI 0), (15, kH 0), (46, .g 2 (.c [.wh 0, .wh 1])), (47, kI 0), (64, kB (decide ((64 : Int) < r52)))], [], [ow 55 l0, ow 55 l1, ow 55 l2, ⟨.blk, 25, 1, 3, .c [.nils, .nils, .nils]⟩, ⟨.row, 55, 1, 1, .w [1]⟩, ⟨.blk, 79, 1, 2, .c [.nils, .nils]⟩]⟩ (aP g16 (aP g17 (aP g18 aN))) ?_
      refine Vi ((decide ((64 : Int) < r52))) (fun g50 => ?_) (fun g50 => ?_)
      ·replace h := bif_t h g50
       refine Vrs hT [3] ⟨[(6, kP 0 0), (7, kE 34 (some 1))], [], [⟨.blk, 25, 1, 3, .c [.nils, .nils, .nils]⟩]⟩ ?_
       refine Vc [.nlc 0 0 55 1 (.w []) (some true), .nlc 0 1 55 1 (.w []) (some true), .nlc 0 2 55 1 (.w []) none] [0, 1, 2, 3] (kPair_R ([], 0, [], 0, [], (some 1))) (W_ret ?_)
       exact ⟨.inl rfl, by cases h; rfl⟩
      ·replace h := bif_f h g50
       refine W_skip ?_
       obtain ⟨r70, g19, h⟩ := bind_some' h
       refine Vgs hT (fT 2 (pSub_ok n r70) fN) [] [] [0, 1, 2, 3, 4, 5, 6] ⟨[(0, kH 0), (1, kH 1), (2, kH 2), (6, kP 3 0), (8, kH 4), (13, kP 5 0), (14, kI 0), (17, kH 6), (18, kE 34 r70.2.2), (46, .g 2 (.c [.wh 0, .wh 1])), (47, kI 0)], [], [ow 55 l0, ow 55 l1, ow 55 l2, ⟨.blk, 25, 1, 3, .c [.nils, .nils, .nils]⟩, ⟨.row, 55, 1, 1, .w [1]⟩, ⟨.blk, 79, 1, 2, .c [.nils, .nils]⟩, ⟨(.ro true), 55, 1, r70.2.1, .w r70.1⟩]⟩ (aP g19 aN) ?_
       refine W_seq ?_
       refine Vrs hT [0, 1, 2, 3, 4, 5, 6] ⟨[(0, kH 0), (1, kH 1), (2, kH 2), (6, kP 3 0), (8, kH 4), (13, kP 5 0), (14, kI 0), (17, kH 6), (18, kE 34 r70.2.2), (46, .g 2 (.c [.wh 0, .wh 1])), (47, kI 0), (74, kB (!((r70.2.2).isNone)))], [], [ow 55 l0, ow 55 l1, ow 55 l2, ⟨.blk, 25, 1, 3, .c [.nils, .nils, .nils]⟩, ⟨.row, 55, 1, 1, .w [1]⟩, ⟨.blk, 79, 1, 2, .c [.nils, .nils]⟩, ⟨(.ro true), 55, 1, r70.2.1, .w r70.1⟩]⟩ ?_
       refine Vi ((!((r70.2.2).isNone))) (fun g49 => ?_) (fun g49 => ?_)
       ·replace h := bif_t h g49
        refine Vrs hT [3] ⟨[(6, kP 0 0), (7, kE 34 r70.2.2)], [], [⟨.blk, 25, 1, 3, .c [.nils, .nils, .nils]⟩]⟩ ?_
        refine Vc [.nlc 0 0 55 1 (.w []) (some true), .nlc 0 1 55 1 (.w []) (some true), .nlc 0 2 55 1 (.w []) none] [0, 1, 2, 3] (kPair_R ([], 0, [], 0, [], r70.2.2)) (W_ret ?_)
        exact ⟨.inl rfl, by cases h; rfl⟩
       ·replace h := bif_f h g49
        refine W_skip ?_
        obtain ⟨g20, g21, h⟩ := gd2 h
        refine Vg hT fN [] [] [0, 1, 2, 3, 4, 5, 6] ⟨[(0, kH 0), (1, kH 1), (2, kH 2), (6, kP 3 0), (8, kH 4), (13, kP 5 0), (46, .g 2 (.c [.wh 0, .wh 1])), (47, kI 0)], [], [ow 55 l0, ow 55 l1, ow 55 l2, ⟨.blk, 25, 1, 3, .c [.nils, .nils, .nils]⟩, ⟨.row, 55, 1, 1, .w [1]⟩, ⟨.blk, 79, 1, 2, .c [.wh 6, .nils]⟩, ⟨(.ro true), 55, 1, r70.2.1, .w r70.1⟩]⟩ (aP g20 (aP g21 aN)) ?_
        obtain ⟨g22, h⟩ := gd_some h
        refine Vg hT fN [] [] [0, 1, 2, 3, 4, 5, 6] ⟨[(0, kH 0), (1, kH 1), (2, kH 2), (6, kP 3 0), (8, kH 4), (13, kP 5 0), (46, .g 2 (.c [.wh 0, .wh 1])), (47, kI 1)], [], [ow 55 l0, ow 55 l1, ow 55 l2, ⟨.blk, 25, 1, 3, .c [.nils, .nils, .nils]⟩, ⟨.row, 55, 1, 1, .w [1]⟩, ⟨.blk, 79, 1, 2, .c [.wh 6, .nils]⟩, ⟨(.ro true), 55, 1, r70.2.1, .w r70.1⟩]⟩ (aP g22 aN) ?_
        refine WL_succ ?_
        refine Vrs hT [0, 1, 2, 3, 4, 5, 6] ⟨[(0, kH 0), (1, kH 1), (2, kH 2), (6, kP 3 0), (8, kH 4), (13, kP 5 0), (46, .g 2 (.c [.wh 0, .wh 1])), (47, kI 1), (48, kB true)], [], [ow 55 l0, ow 55 l1, ow 55 l2, ⟨.blk, 25, 1, 3, .c [.nils, .nils, .nils]⟩, ⟨.row, 55, 1, 1, .w [1]⟩, ⟨.blk, 79, 1, 2, .c [.wh 6, .nils]⟩, ⟨(.ro true), 55, 1, r70.2.1, .w r70.1⟩]⟩ ?_
        refine W_seq ?_
        refine Vi (true) (fun _ => ?_) (fun hb => by cases hb)
        refine W_skip ?_
        refine W_seq ?_
        refine W_block ?_
        obtain ⟨g23, g24, h⟩ := gd2 h
        refine Vgs hT fN [] [] [0, 1, 2, 3, 4, 5, 6] ⟨[(0, kH 0), (1, kH 1), (2, kH 2), (6, kP 3 0), (8, kH 4), (13, kP 5 0), (14, kI 1), (15, kH 1), (46, .g 2 (.c [.wh 0, .wh 1])), (47, kI 1)], [], [ow 55 l0, ow 55 l1, ow 55 l2, ⟨.blk, 25, 1, 3, .c [.nils, .nils, .nils]⟩, ⟨.row, 55, 1, 1, .w [1]⟩, ⟨.blk, 79, 1, 2, .c [.wh 6, .nils]⟩, ⟨(.ro true), 55, 1, r70.2.1, .w r70.1⟩]⟩ (aP g23 (aP g24 aN)) ?_
        obtain ⟨r52_1, g25, h⟩ := bind_some' h
        refine Vgs hT (fT 1 (ksize_ok n r52_1) fN) [] [] [0, 1, 2, 3, 4, 5, 6] ⟨[(0, kH 0), (1, kH 1), (2, kH 2), (6, kP 3 0), (8, kH 4), (13, kP 5 0), (14, kI 1), (15, kH 1), (16, kI r52_1), (46, .g 2 (.c [.wh 0, .wh 1])), (47, kI 1)], [], [ow 55 l0, ow 55 l1, ow 55 l2, ⟨.blk, 25, 1, 3, .c [.nils, .nils, .nils]⟩, ⟨.row, 55, 1, 1, .w [1]⟩, ⟨.blk, 79, 1, 2, .c [.wh 6, .nils]⟩, ⟨(.ro true), 55, 1, r70.2.1, .w r70.1⟩]⟩ (aP g25 aN) ?_
        refine W_seq ?_
        refine W_seq ?_
        obtain ⟨r55_1, g26, h⟩ := bind_some' h
        rcases Bool.eq_false_or_eq_true (decide (r55_1 < (0 : Int))) with g27 | g27
        ·replace h := bif_t h g27
         refine Vg hT (fT 2 (pCmp_ok n r55_1) fN) [(4, true)] [] [0, 1, 2, 3, 4, 5, 6] ⟨[(0, kH 0), (1, kH 1), (2, kH 2), (6, kP 3 0), (8, kH 4), (13, kP 5 0), (14, kI 1), (15, kH 1), (46, .g 2 (.c [.wh 0, .wh 1])), (47, kI 1), (64, kB true)], [], [ow 55 l0, ow 55 l1, ow 55 l2, ⟨.blk, 25, 1, 3, .c [.nils, .nils, .nils]⟩, ⟨.row, 55, 1, 1, .w [1]⟩, ⟨.blk, 79, 1, 2, .c [.wh 6, .nils]⟩, ⟨(.ro true), 55, 1, r70.2.1, .w r70.1⟩]⟩ (aP g26 (aP g27 aN)) ?_
         refine Vi (true) (fun _ => ?_) (fun hb => by cases hb)
         refine Vrs hT [3] ⟨[(6, kP 0 0), (7, kE 34 (some 1))], [], [⟨.blk, 25, 1, 3, .c [.nils, .nils, .nils]⟩]⟩ ?_
         refine Vc [.nlc 0 0 55 1 (.w []) (some true), .nlc 0 1 55 1 (.w []) (some true), .nlc 0 2 55 1 (.w []) none] [0, 1, 2, 3] (kPair_R ([], 0, [], 0, [], (some 1))) (W_ret ?_)
         exact ⟨.inl rfl, by cases h; rfl⟩
        ·replace h := bif_f h g27
         rcases Bool.eq_false_or_eq_true (decide (r52_1 < (0 : Int))) with g28 | g28
         ·replace h := bif_t h g28
          refine Vg hT (fT 2 (pCmp_ok n r55_1) fN) [(4, false), (8, true)] [] [0, 1, 2, 3, 4, 5, 6] ⟨[(0, kH 0), (1, kH 1), (2, kH 2), (6, kP 3 0), (8, kH 4), (13, kP 5 0), (14, kI 1), (15, kH 1), (46, .g 2 (.c [.wh 0, .wh 1])), (47, kI 1), (64, kB true)], [], [ow 55 l0, ow 55 l1, ow 55 l2, ⟨.blk, 25, 1, 3, .c [.nils, .nils, .nils]⟩, ⟨.row, 55, 1, 1, .w [1]⟩, ⟨.blk, 79, 1, 2, .c [.wh 6, .nils]⟩, ⟨(.ro true), 55, 1, r70.2.1, .w r70.1⟩]⟩ (aP g26 (aP g27 (aP g28 aN))) ?_
          refine Vi (true) (fun _ => ?_) (fun hb => by cases hb)
          refine Vrs hT [3] ⟨[(6, kP 0 0), (7, kE 34 (some 1))], [], [⟨.blk, 25, 1, 3, .c [.nils, .nils, .nils]⟩]⟩ ?_
          refine Vc [.nlc 0 0 55 1 (.w []) (some true), .nlc 0 1 55 1 (.w []) (some true), .nlc 0 2 55 1 (.w []) none] [0, 1, 2, 3] (kPair_R ([], 0, [], 0, [], (some 1))) (W_ret ?_)
          exact ⟨.inl rfl, by cases h; rfl⟩
         ·replace h := bif_f h g28
          refine Vg hT (fT 2 (pCmp_ok n r55_1) fN) [(4, false), (8, false)] [] [0, 1, 2, 3, 4, 5, 6] ⟨[(0, kH 0), (1, kH 1), (2, kH 2), (6, kP 3 0), (8, kH 4), (13, kP 5 0), (14, kI 1), (15, kH 1), (46, .g 2 (.c [.wh 0, .wh 1])), (47, kI 1), (64, kB (decide ((64 : Int) < r52_1)))], [], [ow 55 l0, ow 55 l1, ow 55 l2, ⟨.blk, 25, 1, 3, .c [.nils, .nils, .nils]⟩, ⟨.row, 55, 1, 1, .w [1]⟩, ⟨.blk, 79, 1, 2, .c [.wh 6, .nils]⟩, ⟨(.ro true), 55, 1, r70.2.1, .w r70.1⟩]⟩ (aP g26 (aP g27 (aP g28 aN))) ?_
          refine Vi ((decide ((64 : Int) < r52_1))) (fun g48 => ?_) (fun g48 => ?_)
          ·replace h := bif_t h g48
           refine Vrs hT [3] ⟨[(6, kP 0 0), (7, kE 34 (some 1))], [], [⟨.blk, 25, 1, 3, .c [.nils, .nils, .nils]⟩]⟩ ?_
           refine Vc [.nlc 0 0 55 1 (.w []) (some true), .nlc 0 1 55 1 (.w []) (some true), .nlc 0 2 55 1 (.w []) none] [0, 1, 2, 3] (kPair_R ([], 0, [], 0, [], (some 1))) (W_ret ?_)
           exact ⟨.inl rfl, by cases h; rfl⟩
          ·replace h := bif_f h g48
           refine W_skip ?_
           obtain ⟨r70_1, g29, h⟩ := bind_some' h
           refine Vgs hT (fT 2 (pSub_ok n r70_1) fN) [] [] [0, 1, 2, 3, 4, 5, 6, 7] ⟨[(0, kH 0), (1, kH 1), (2, kH 2), (6, kP 3 0), (8, kH 4), (13, kP 5 0), (14, kI 1), (17, kH 7), (18, kE 34 r70_1.2.2), (46, .g 2 (.c [.wh 0, .wh 1])), (47, kI 1)], [], [ow 55 l0, ow 55 l1, ow 55 l2, ⟨.blk, 25, 1, 3, .c [.nils, .nils, .nils]⟩, ⟨.row, 55, 1, 1, .w [1]⟩, ⟨.blk, 79, 1, 2, .c [.wh 6, .nils]⟩, ⟨(.ro true), 55, 1, r70.2.1, .w r70.1⟩, ⟨(.ro true), 55, 1, r70_1.2.1, .w r70_1.1⟩]⟩ (aP g29 aN) ?_
           refine W_seq ?_
           refine Vrs hT [0, 1, 2, 3, 4, 5, 6, 7] ⟨[(0, kH 0), (1, kH 1), (2, kH 2), (6, kP 3 0), (8, kH 4), (13, kP 5 0), (14, kI 1), (17, kH 7), (18, kE 34 r70_1.2.2), (46, .g 2 (.c [.wh 0, .wh 1])), (47, kI 1), (74, kB (!((r70_1.2.2).isNone)))], [], [ow 55 l0, ow 55 l1, ow 55 l2, ⟨.blk, 25, 1, 3, .c [.nils, .nils, .nils]⟩, ⟨.row, 55, 1, 1, .w [1]⟩, ⟨.blk, 79, 1, 2, .c [.wh 6, .nils]⟩, ⟨(.ro true), 55, 1, r70.2.1, .w r70.1⟩, ⟨(.ro true), 55, 1, r70_1.2.1, .w r70_1.1⟩]⟩ ?_
           refine Vi ((!((r70_1.2.2).isNone))) (fun g47 => ?_) (fun g47 => ?_)
           ·replace h := bif_t h g47
            refine Vrs hT [3] ⟨[(6, kP 0 0), (7, kE 34 r70_1.2.2)], [], [⟨.blk, 25, 1, 3, .c [.nils, .nils, .nils]⟩]⟩ ?_
            refine Vc [.nlc 0 0 55 1 (.w []) (some true), .nlc 0 1 55 1 (.w []) (some true), .nlc 0 2 55 1 (.w []) none] [0, 1, 2, 3] (kPair_R ([], 0, [], 0, [], r70_1.2.2)) (W_ret ?_)
            exact ⟨.inl rfl, by cases h; rfl⟩
           ·replace h := bif_f h g47
            refine W_skip ?_
            obtain ⟨g30, g31, h⟩ := gd2 h
            refine Vg hT fN [] [] [0, 1, 2, 3, 4, 5, 6, 7] ⟨[(0, kH 0), (1, kH 1), (2, kH 2), (6, kP 3 0), (8, kH 4), (13, kP 5 0), (46, .g 2 (.c [.wh 0, .wh 1])), (47, kI 1)], [], [ow 55 l0, ow 55 l1, ow 55 l2, ⟨.blk, 25, 1, 3, .c [.nils, .nils, .nils]⟩, ⟨.row, 55, 1, 1, .w [1]⟩, ⟨.blk, 79, 1, 2, .c [.wh 6, .wh 7]⟩, ⟨(.ro true), 55, 1, r70.2.1, .w r70.1⟩, ⟨(.ro true), 55, 1, r70_1.2.1, .w r70_1.1⟩]⟩ (aP g30 (aP g31 aN)) ?_
            obtain ⟨g32, h⟩ := gd_some h
            refine Vg hT fN [] [] [0, 1, 2, 3, 4, 5, 6, 7] ⟨[(0, kH 0), (1, kH 1), (2, kH 2), (6, kP 3 0), (8, kH 4), (13, kP 5 0), (46, .g 2 (.c [.wh 0, .wh 1])), (47, kI 2)], [], [ow 55 l0, ow 55 l1, ow 55 l2, ⟨.blk, 25, 1, 3, .c [.nils, .nils, .nils]⟩, ⟨.row, 55, 1, 1, .w [1]⟩, ⟨.blk, 79, 1, 2, .c [.wh 6, .wh 7]⟩, ⟨(.ro true), 55, 1, r70.2.1, .w r70.1⟩, ⟨(.ro true), 55, 1, r70_1.2.1, .w r70_1.1⟩]⟩ (aP g32 aN) ?_
            refine WL_succ ?_
            refine Vrs hT [0, 1, 2, 3, 4, 5, 6, 7] ⟨[(0, kH 0), (1, kH 1), (2, kH 2), (6, kP 3 0), (8, kH 4), (13, kP 5 0), (46, .g 2 (.c [.wh 0, .wh 1])), (47, kI 2), (48, kB false)], [], [ow 55 l0, ow 55 l1, ow 55 l2, ⟨.blk, 25, 1, 3, .c [.nils, .nils, .nils]⟩, ⟨.row, 55, 1, 1, .w [1]⟩, ⟨.blk, 79, 1, 2, .c [.wh 6, .wh 7]⟩, ⟨(.ro true), 55, 1, r70.2.1, .w r70.1⟩, ⟨(.ro true), 55, 1, r70_1.2.1, .w r70_1.1⟩]⟩ ?_
            refine W_seq ?_
            refine Vi (false) (fun hb => by cases hb) (fun _ => ?_)
            refine Vc [] [0, 1, 2, 3, 5, 6, 7] ⟨[(0, kH 0), (1, kH 1), (2, kH 2), (6, kP 3 0), (13, kP 4 0)], [], [ow 55 l0, ow 55 l1, ow 55 l2, ⟨.blk, 25, 1, 3, .c [.nils, .nils, .nils]⟩, ⟨.blk, 79, 1, 2, .c [.wh 5, .wh 6]⟩, ⟨(.ro true), 55, 1, r70.2.1, .w r70.1⟩, ⟨(.ro true), 55, 1, r70_1.2.1, .w r70_1.1⟩]⟩ (W_exit ?_)
            obtain ⟨g33, g34, g35, g36, h⟩ := gd4 h
            obtain ⟨r86, g37, h⟩ := bind_some' h
            refine Vgs hT (fT 4 (pMul_ok n r86) fN) [] [] [0, 1, 2, 3, 7] ⟨[(0, kH 0), (1, kH 1), (2, kH 2), (6, kP 3 0), (19, kH 4), (20, kE 34 r86.2.2)], [], [ow 55 l0, ow 55 l1, ow 55 l2, ⟨.blk, 25, 1, 3, .c [.nils, .nils, .nils]⟩, ⟨(.ro true), 55, 1, r86.2.1, .w r86.1⟩]⟩ (aP g33 (aP g34 (aP g35 (aP g36 (aP g37 aN))))) ?_
            refine W_seq ?_
            refine Vrs hT [0, 1, 2, 3, 4] ⟨[(0, kH 0), (1, kH 1), (2, kH 2), (6, kP 3 0), (19, kH 4), (20, kE 34 r86.2.2), (90, kB (!((r86.2.2).isNone)))], [], [ow 55 l0, ow 55 l1, ow 55 l2, ⟨.blk, 25, 1, 3, .c [.nils, .nils, .nils]⟩, ⟨(.ro true), 55, 1, r86.2.1, .w r86.1⟩]⟩ ?_
            refine Vi ((!((r86.2.2).isNone))) (fun g46 => ?_) (fun g46 => ?_)
            ·replace h := bif_t h g46
             refine Vrs hT [3] ⟨[(6, kP 0 0), (7, kE 34 r86.2.2)], [], [⟨.blk, 25, 1, 3, .c [.nils, .nils, .nils]⟩]⟩ ?_
             refine Vc [.nlc 0 0 55 1 (.w []) (some true), .nlc 0 1 55 1 (.w []) (some true), .nlc 0 2 55 1 (.w []) none] [0, 1, 2, 3] (kPair_R ([], 0, [], 0, [], r86.2.2)) (W_ret ?_)
             exact ⟨.inl rfl, by cases h; rfl⟩
            ·replace h := bif_f h g46
             refine W_skip ?_
             obtain ⟨r96, g38, h⟩ := bind_some' h
             refine Vgs hT (fT 2 (pInv_ok n r96) fN) [] [] [0, 1, 2, 3, 5] ⟨[(0, kH 0), (1, kH 1), (2, kH 2), (6, kP 3 0), (20, kE 34 r96.2), (21, kH 4)], [], [ow 55 l0, ow 55 l1, ow 55 l2, ⟨.blk, 25, 1, 3, .c [.nils, .nils, .nils]⟩, nw 55 r96.1]⟩ (aP g38 aN) ?_
             refine W_seq ?_
             refine Vrs hT [0, 1, 2, 3, 4] ⟨[(0, kH 0), (1, kH 1), (2, kH 2), (6, kP 3 0), (21, kH 4), (100, kB (!((r96.2).isNone)))], [], [ow 55 l0, ow 55 l1, ow 55 l2, ⟨.blk, 25, 1, 3, .c [.nils, .nils, .nils]⟩, nw 55 r96.1]⟩ ?_
             refine Vi ((!((r96.2).isNone))) (fun g45 => ?_) (fun g45 => ?_)
             ·replace h := bif_t h g45
              refine Vrs hT [3] ⟨[(6, kP 0 0), (7, kE 34 (some 13))], [], [⟨.blk, 25, 1, 3, .c [.nils, .nils, .nils]⟩]⟩ ?_
              refine Vc [.nlc 0 0 55 1 (.w []) (some true), .nlc 0 1 55 1 (.w []) (some true), .nlc 0 2 55 1 (.w []) none] [0, 1, 2, 3] (kPair_R ([], 0, [], 0, [], (some 13))) (W_ret ?_)
              exact ⟨.inl rfl, by cases h; rfl⟩
             ·replace h := bif_f h g45
              refine W_skip ?_
              obtain ⟨r106, g39, h⟩ := bind_some' h
              refine Vgs hT (fT 2 (pMul_ok n r106) fN) [] [] [2, 3, 4, 5] ⟨[(2, kH 0), (6, kP 1 0), (20, kE 34 r106.2.2), (21, kH 2), (22, kH 3)], [], [ow 55 l2, ⟨.blk, 25, 1, 3, .c [.nils, .nils, .nils]⟩, nw 55 r96.1, ⟨(.ro true), 55, 1, r106.2.1, .w r106.1⟩]⟩ (aP g39 aN) ?_
              refine W_seq ?_
              refine Vrs hT [0, 1, 2, 3] ⟨[(2, kH 0), (6, kP 1 0), (20, kE 34 r106.2.2), (21, kH 2), (22, kH 3), (110, kB (!((r106.2.2).isNone)))], [], [ow 55 l2, ⟨.blk, 25, 1, 3, .c [.nils, .nils, .nils]⟩, nw 55 r96.1, ⟨(.ro true), 55, 1, r106.2.1, .w r106.1⟩]⟩ ?_
              refine Vi ((!((r106.2.2).isNone))) (fun g44 => ?_) (fun g44 => ?_)
              ·replace h := bif_t h g44
               refine Vrs hT [1] ⟨[(6, kP 0 0), (7, kE 34 r106.2.2)], [], [⟨.blk, 25, 1, 3, .c [.nils, .nils, .nils]⟩]⟩ ?_
               refine Vc [.nlc 0 0 55 1 (.w []) (some true), .nlc 0 1 55 1 (.w []) (some true), .nlc 0 2 55 1 (.w []) none] [0, 1, 2, 3] (kPair_R ([], 0, [], 0, [], r106.2.2)) (W_ret ?_)
               exact ⟨.inl rfl, by cases h; rfl⟩
              ·replace h := bif_f h g44
               refine W_skip ?_
               obtain ⟨r115, g40, h⟩ := bind_some' h
               refine Vgs hT (fT 1 (pAdd_ok n r115) fN) [] [] [1, 2, 3, 4] ⟨[(6, kP 0 0), (20, kE 34 r115.2.2), (21, kH 1), (22, kH 2), (23, kH 3)], [], [⟨.blk, 25, 1, 3, .c [.nils, .nils, .nils]⟩, nw 55 r96.1, ⟨(.ro true), 55, 1, r106.2.1, .w r106.1⟩, ⟨(.ro true), 55, 1, r115.2.1, .w r115.1⟩]⟩ (aP g40 aN) ?_
               refine W_seq ?_
               refine Vrs hT [0, 1, 2, 3] ⟨[(6, kP 0 0), (20, kE 34 r115.2.2), (21, kH 1), (22, kH 2), (23, kH 3), (119, kB (!((r115.2.2).isNone)))], [], [⟨.blk, 25, 1, 3, .c [.nils, .nils, .nils]⟩, nw 55 r96.1, ⟨(.ro true), 55, 1, r106.2.1, .w r106.1⟩, ⟨(.ro true), 55, 1, r115.2.1, .w r115.1⟩]⟩ ?_
               refine Vi ((!((r115.2.2).isNone))) (fun g43 => ?_) (fun g43 => ?_)
               ·replace h := bif_t h g43
                refine Vrs hT [0] ⟨[(6, kP 0 0), (7, kE 34 r115.2.2)], [], [⟨.blk, 25, 1, 3, .c [.nils, .nils, .nils]⟩]⟩ ?_
                refine Vc [.nlc 0 0 55 1 (.w []) (some true), .nlc 0 1 55 1 (.w []) (some true), .nlc 0 2 55 1 (.w []) none] [0, 1, 2, 3] (kPair_R ([], 0, [], 0, [], r115.2.2)) (W_ret ?_)
                exact ⟨.inl rfl, by cases h; rfl⟩
               ·replace h := bif_f h g43
                refine W_skip ?_
                refine Vrs hT [0, 4, 2, 3, 1] ⟨[(6, kP 0 0), (24, kP 1 0)], [], [⟨.blk, 25, 1, 3, .c [.nils, .nils, .nils]⟩, ⟨.blk, 25, 1, 3, .c [.wh 2, .wh 3, .wh 4]⟩, ⟨(.ro true), 55, 1, r106.2.1, .w r106.1⟩, ⟨(.ro true), 55, 1, r115.2.1, .w r115.1⟩, nw 55 r96.1]⟩ ?_
                refine W_seq ?_
                obtain ⟨r127, g41, h⟩ := bind_some' h
                refine Vgs hT (fT 1 (ksecret_ok n r127) fN) [] [] [0, 1, 2, 3, 4] ⟨[(6, kP 0 0), (24, kP 1 0), (25, kE 34 r127)], [], [⟨.blk, 25, 1, 3, .c [.nils, .nils, .nils]⟩, ⟨.blk, 25, 1, 3, .c [.wh 2, .wh 3, .wh 4]⟩, ⟨(.ro true), 55, 1, r106.2.1, .w r106.1⟩, ⟨(.ro true), 55, 1, r115.2.1, .w r115.1⟩, nw 55 r96.1]⟩ (aP g41 aN) ?_
                refine Vrs hT [0, 1, 2, 3, 4] ⟨[(6, kP 0 0), (24, kP 1 0), (25, kE 34 r127), (129, kB (!((r127).isNone)))], [], [⟨.blk, 25, 1, 3, .c [.nils, .nils, .nils]⟩, ⟨.blk, 25, 1, 3, .c [.wh 2, .wh 3, .wh 4]⟩, ⟨(.ro true), 55, 1, r106.2.1, .w r106.1⟩, ⟨(.ro true), 55, 1, r115.2.1, .w r115.1⟩, nw 55 r96.1]⟩ ?_
                refine Vi ((!((r127).isNone))) (fun g42 => ?_) (fun g42 => ?_)
                ·replace h := bif_t h g42
                 refine Vrs hT [0] ⟨[(6, kP 0 0), (7, kE 34 r127)], [], [⟨.blk, 25, 1, 3, .c [.nils, .nils, .nils]⟩]⟩ ?_
                 refine Vc [.nlc 0 0 55 1 (.w []) (some true), .nlc 0 1 55 1 (.w []) (some true), .nlc 0 2 55 1 (.w []) none] [0, 1, 2, 3] (kPair_R ([], 0, [], 0, [], r127)) (W_ret ?_)
                 exact ⟨.inl rfl, by cases h; rfl⟩
                ·replace h := bif_f h g42
                 refine W_skip ?_
                 refine Vrs hT [0, 2, 3, 4] ⟨[(6, kP 0 0), (7, .c (.s (.v .nilIface)))], [], [⟨.blk, 25, 1, 3, .c [.wh 1, .wh 2, .wh 3]⟩, ⟨(.ro true), 55, 1, r106.2.1, .w r106.1⟩, ⟨(.ro true), 55, 1, r115.2.1, .w r115.1⟩, nw 55 r96.1]⟩ ?_
                 refine Vc [.er 7 34 .i64] [0, 1, 2, 3] (kPair_R (r106.1, r106.2.1, r115.1, r115.2.1, r96.1, none)) (W_ret ?_)
                 exact ⟨.inl rfl, by cases h; rfl⟩
def kup_R (r : Bool) : S := ⟨[(0, kB r)], [], []⟩
def kup_ct (n : Nat) (r : Bool) : Ct := ct0 fun H => ([kup n = some r], shA H.length (kB r), shH H.length [])
theorem kup_ok (n : Nat) (r : Bool) : FnOk Tryd.prog Tr 8 (kup_ct n r) := by
 refine fnok Tryd.func8 ?_
 refine HO_0 tabO_db (kup_R r) [.tmp 0] [] 23 Tryd.func8 fun w hG h => ?_
 unfold kup at h
 have hT := tabO_db
 refine Vrs hT [] ⟨[], [], []⟩ ?_
 obtain ⟨r7, g1, h⟩ := bind_some' h
 refine Vgs hT (fT 3 (kCheck_ok n r7) fN) [] [] [] ⟨[(1, kE 34 r7)], [], []⟩ (aP g1 aN) ?_
 obtain ⟨r12, g2, h⟩ := bind_some' h
 refine Vgs hT (fT 3 (kPair_ok n r12) fN) [] [] [] ⟨[(1, kE 34 r7), (3, kE 34 r12.2.2.2.2.2)], [], []⟩ (aP g2 aN) ?_
 refine W_seq ?_
 obtain ⟨g3, h⟩ := gd_some h
 rcases Bool.eq_false_or_eq_true (r7 == (some 1)) with g4 | g4
 ·replace h := bif_t h g4
  obtain ⟨g5, h⟩ := gd_some h
  refine Vg hT fN [(3, true)] [] [] ⟨[(0, kB (r12.2.2.2.2.2 == (some 1)))], [], []⟩ (aP g3 (aP g4 (aP g5 aN))) ?_
  refine Vc [] [] (kup_R (r12.2.2.2.2.2 == (some 1))) (W_ret ?_)
  exact ⟨.inl rfl, by cases h; rfl⟩
 ·replace h := bif_f h g4
  refine Vg hT fN [(3, false)] [] [] ⟨[(0, kB false)], [], []⟩ (aP g3 (aP g4 aN)) ?_
  refine Vc [] [] (kup_R false) (W_ret ?_)
  exact ⟨.inl rfl, by cases h; rfl⟩
end Go.Proofs.YthichmclbiggmaaDoor
end
