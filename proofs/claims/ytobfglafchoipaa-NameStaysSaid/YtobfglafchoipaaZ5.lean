import Derived.Test.YtobfglafchoipaaZ4
import Derived.Test.YtobfglafchoipaaProg
set_option linter.unusedVariables false
set_option linter.unusedSimpArgs false
section
namespace Go.Proofs.Ytobfglafchoipaa
open Go.RowKit Go.Ch Go.Sx
def tabL_nsa : List (TypeId × Ti) := [(3, ⟨.int .i64, 1, 8, true, some [.int .i64]⟩),
 (4, ⟨.bool, 1, 1, true, some [.bool]⟩),
 (5, ⟨.int .u8, 1, 1, true, some [.int .u8]⟩),
 (9, ⟨.str, 1, 16, true, some [.str]⟩),
 (22, ⟨.sl 5, 1, 24, false, some [.nils]⟩),
 (27, ⟨.sl 47, 1, 24, false, some [.nils]⟩),
 (32, ⟨.ifc, 1, 16, true, some [.ifc]⟩),
 (38, ⟨.int .i64, 1, 8, true, some [.int .i64]⟩),
 (44, ⟨.sl 92, 1, 24, false, some [.nils]⟩),
 (46, ⟨.st [(44, 0), (5, 1), (22, 2)], 3, 56, false, some [.nils, .int .u8, .nils]⟩),
 (47, ⟨.sl 46, 1, 24, false, some [.nils]⟩),
 (56, ⟨.ptr 89, 1, 8, true, some [.ptr]⟩),
 (87, ⟨.sl 3, 1, 24, false, some [.nils]⟩),
 (89, ⟨.st [(22, 0), (3, 1), (87, 2)], 3, 56, false, some [.nils, .int .i64, .nils]⟩),
 (92, ⟨.int .u32, 1, 4, true, some [.int .u32]⟩),
 (108, ⟨.int .u64, 1, 8, true, some [.int .u64]⟩),
 (115, ⟨.sl 44, 1, 24, false, some [.nils]⟩)]
def tab_nsa : Tab := fun t => (tabL_nsa).lookup t
theorem tabE_nsa : (tabL_nsa.map fun p => tiOf Try.prog p.1) = tabL_nsa.map fun p => some p.2 := by kernel_rfl
theorem tabO_nsa : TabOk Try.prog tab_nsa := tab_of tabE_nsa
def pReadOid_j1 (n : Nat) (a0 : List UInt8) (i12_1 : Int) (k_l1 : (List UInt32) → UInt64 → Bool → Int → Option (List UInt32 × Option Int)) (w4_7 : List UInt32) (y5_7 : UInt64) (p6_7 : Bool) : Option (List UInt32 × Option Int) :=
 gd (okI .i64 (i12_1 + 1)) <|
 k_l1 w4_7 y5_7 p6_7 (i12_1 + 1)
def pReadOid_l1 (n : Nat) (a0 : List UInt8) : Nat → List UInt32 → UInt64 → Bool → Int → Option (List UInt32 × Option Int)
 | 0, _, _, _, _ => none
 | fu_l1 + 1, w4_5, y5_5, p6_5, i12_1 =>
  bif (decide (i12_1 < ((a0.length : Nat) : Int))) then
   gd (0 ≤ i12_1) <|
   gd (i12_1 < ((a0.length : Nat) : Int)) <|
   bif (!p6_5) then
    bif ((a0.getD i12_1.toNat 0) == 128) then
     some ([], (some 2))
    else
     bif (decide ((16 : Int) < ((w4_5.length : Nat) : Int))) then
      some ([], (some 2))
     else
      gd (0 ≤ (7 : Int)) <|
      bif (decide ((4294967296 : UInt64) ≤ ((shl64 y5_5 7) ||| (((a0.getD i12_1.toNat 0) &&& (127 : UInt8)).toUInt64)))) then
       some ([], (some 2))
      else
       bif (decide ((a0.getD i12_1.toNat 0) < (128 : UInt8))) then
        gd (rmB (w4_5.length + 1) 4) <|
        pReadOid_j1 n a0 i12_1 (pReadOid_l1 n a0 fu_l1) (w4_5 ++ [((shl64 y5_5 7) ||| (((a0.getD i12_1.toNat 0) &&& (127 : UInt8)).toUInt64)).toUInt32]) 0 false
       else
        pReadOid_j1 n a0 i12_1 (pReadOid_l1 n a0 fu_l1) w4_5 ((shl64 y5_5 7) ||| (((a0.getD i12_1.toNat 0) &&& (127 : UInt8)).toUInt64)) true
   else
    bif (decide ((16 : Int) < ((w4_5.length : Nat) : Int))) then
     some ([], (some 2))
    else
     gd (0 ≤ (7 : Int)) <|
     bif (decide ((4294967296 : UInt64) ≤ ((shl64 y5_5 7) ||| (((a0.getD i12_1.toNat 0) &&& (127 : UInt8)).toUInt64)))) then
      some ([], (some 2))
     else
      bif (decide ((a0.getD i12_1.toNat 0) < (128 : UInt8))) then
       gd (rmB (w4_5.length + 1) 4) <|
       pReadOid_j1 n a0 i12_1 (pReadOid_l1 n a0 fu_l1) (w4_5 ++ [((shl64 y5_5 7) ||| (((a0.getD i12_1.toNat 0) &&& (127 : UInt8)).toUInt64)).toUInt32]) 0 false
      else
       pReadOid_j1 n a0 i12_1 (pReadOid_l1 n a0 fu_l1) w4_5 ((shl64 y5_5 7) ||| (((a0.getD i12_1.toNat 0) &&& (127 : UInt8)).toUInt64)) true
  else
   bif p6_5 then
    some ([], (some 2))
   else
    bif (((w4_5.length : Nat) : Int) == 0) then
     some ([], (some 2))
    else
     gd (0 ≤ (0 : Int)) <|
     gd ((0 : Int) < ((w4_5.length : Nat) : Int)) <|
     gd ((40 : UInt32) ≠ 0) <|
     gd (0 ≤ (0 : Int)) <|
     gd ((0 : Int) < ((w4_5.length : Nat) : Int)) <|
     gd (0 ≤ (1 : Int)) <|
     gd ((1 : Int) ≤ ((w4_5.length : Nat) : Int)) <|
     gd ((([[(if (2 : UInt32) < ((w4_5.getD 0 0) / (40 : UInt32)) then (2 : UInt32) else ((w4_5.getD 0 0) / (40 : UInt32))), ((w4_5.getD 0 0) - ((40 : UInt32) * (if (2 : UInt32) < ((w4_5.getD 0 0) / (40 : UInt32)) then (2 : UInt32) else ((w4_5.getD 0 0) / (40 : UInt32)))))], ((w4_5.drop 1).take (w4_5.length - 1))] : List (List UInt32))).length ≤ 1000000) <|
     gd ((([[(if (2 : UInt32) < ((w4_5.getD 0 0) / (40 : UInt32)) then (2 : UInt32) else ((w4_5.getD 0 0) / (40 : UInt32))), ((w4_5.getD 0 0) - ((40 : UInt32) * (if (2 : UInt32) < ((w4_5.getD 0 0) / (40 : UInt32)) then (2 : UInt32) else ((w4_5.getD 0 0) / (40 : UInt32)))))], ((w4_5.drop 1).take (w4_5.length - 1))] : List (List UInt32))).flatten.length ≤ 1000000000) <|
     (pident n ((([[(if (2 : UInt32) < ((w4_5.getD 0 0) / (40 : UInt32)) then (2 : UInt32) else ((w4_5.getD 0 0) / (40 : UInt32))), ((w4_5.getD 0 0) - ((40 : UInt32) * (if (2 : UInt32) < ((w4_5.getD 0 0) / (40 : UInt32)) then (2 : UInt32) else ((w4_5.getD 0 0) / (40 : UInt32)))))], ((w4_5.drop 1).take (w4_5.length - 1))] : List (List UInt32))).flatten)).bind fun r70_1 =>
     bif (!r70_1) then
      some ([], (some 2))
     else
      some (((([[(if (2 : UInt32) < ((w4_5.getD 0 0) / (40 : UInt32)) then (2 : UInt32) else ((w4_5.getD 0 0) / (40 : UInt32))), ((w4_5.getD 0 0) - ((40 : UInt32) * (if (2 : UInt32) < ((w4_5.getD 0 0) / (40 : UInt32)) then (2 : UInt32) else ((w4_5.getD 0 0) / (40 : UInt32)))))], ((w4_5.drop 1).take (w4_5.length - 1))] : List (List UInt32))).flatten), none)
def pReadOid (n : Nat) (a0 : List UInt8) : Option (List UInt32 × Option Int) :=
 pReadOid_l1 n a0 n [] 0 false 0
def nOne (n : Nat) (a0_0 : List UInt8) (a0_1 : Int) (a0_2 : List Int) : Option (Int × List Int × List UInt32 × UInt8 × List UInt8 × Option Int) :=
 (tEnter n a0_0 a0_1 a0_2 48).bind fun r12 =>
 bif (!((r12.2.2).isNone)) then
  some (r12.1, r12.2.1, [], 0, [], r12.2.2)
 else
  (tTake n a0_0 r12.1 r12.2.1 6).bind fun r19 =>
  bif (!((r19.2.2).isNone)) then
   some (r19.1, r12.2.1, [], 0, [], r19.2.2)
  else
   (pReadOid n r19.2.1).bind fun r28 =>
   bif (!((r28.2).isNone)) then
    some (r19.1, r12.2.1, [], 0, [], r28.2)
   else
    (tNext n a0_0 r19.1 r12.2.1).bind fun r37 =>
    (tTake n a0_0 r19.1 r12.2.1 r37.1).bind fun r43 =>
    bif (!((r43.2.2).isNone)) then
     some (r43.1, r12.2.1, [], 0, [], r43.2.2)
    else
     (tLeave n a0_0 r43.1 r12.2.1).bind fun r55 =>
     some (r43.1, r55.1, r28.1, r37.1, r43.2.1, r55.2)
def nSteps_j1 (n : Nat) (a0_0 : List UInt8) (ig1000000_1_32 : Int) (zg1000000_2_32 : List Int) (d5_4 : List (List (List UInt32 × (UInt8 × List UInt8)))) : Option (Int × List Int × List (List (List UInt32 × (UInt8 × List UInt8))) × Option Int) :=
 (tLeave n a0_0 ig1000000_1_32 zg1000000_2_32).bind fun r63_1 =>
 bif (!((r63_1.2).isNone)) then
  some (ig1000000_1_32, r63_1.1, [], r63_1.2)
 else
  (tEnd n a0_0 ig1000000_1_32 r63_1.1).bind fun r69_1 =>
  some (ig1000000_1_32, r63_1.1, d5_4, r69_1)
def nSteps_j2 (n : Nat) (a0_0 : List UInt8) (d5_5 : List (List (List UInt32 × (UInt8 × List UInt8)))) (k_l1 : Int → (List Int) → (List (List (List UInt32 × (UInt8 × List UInt8)))) → Option (Int × List Int × List (List (List UInt32 × (UInt8 × List UInt8))) × Option Int)) (ig1000000_1_41 : Int) (zg1000000_2_41 : List Int) (d9_34 : List (List UInt32 × (UInt8 × List UInt8))) : Option (Int × List Int × List (List (List UInt32 × (UInt8 × List UInt8))) × Option Int) :=
 (tLeave n a0_0 ig1000000_1_41 zg1000000_2_41).bind fun r54_11 =>
 bif (!((r54_11.2).isNone)) then
  some (ig1000000_1_41, r54_11.1, [], r54_11.2)
 else
  gd (rmB (d5_5.length + 1) 24) <|
  k_l1 ig1000000_1_41 r54_11.1 (d5_5 ++ [d9_34])
def nSteps_l2 (n : Nat) (a0_0 : List UInt8) (d5_5 : List (List (List UInt32 × (UInt8 × List UInt8)))) (k_l1 : Int → (List Int) → (List (List (List UInt32 × (UInt8 × List UInt8)))) → Option (Int × List Int × List (List (List UInt32 × (UInt8 × List UInt8))) × Option Int)) : Nat → Int → List Int → List (List UInt32 × (UInt8 × List UInt8)) → Option (Int × List Int × List (List (List UInt32 × (UInt8 × List UInt8))) × Option Int)
 | 0, _, _, _ => none
 | fu_l2 + 1, ig1000000_1_42, zg1000000_2_42, d9_35 =>
  (tNext n a0_0 ig1000000_1_42 zg1000000_2_42).bind fun r36_28 =>
  bif (!r36_28.2) then
   nSteps_j2 n a0_0 d5_5 k_l1 ig1000000_1_42 zg1000000_2_42 d9_35
  else
   (nOne n a0_0 ig1000000_1_42 zg1000000_2_42).bind fun r43_28 =>
   bif (!((r43_28.2.2.2.2.2).isNone)) then
    some (r43_28.1, r43_28.2.1, [], r43_28.2.2.2.2.2)
   else
    gd (rmB (d9_35.length + 1) 56) <|
    (nSteps_l2 n a0_0 d5_5 k_l1 fu_l2) r43_28.1 r43_28.2.1 (d9_35 ++ [(r43_28.2.2.1, (r43_28.2.2.2.1, r43_28.2.2.2.2.1))])
def nSteps_l1 (n : Nat) (a0_0 : List UInt8) : Nat → Int → List Int → List (List (List UInt32 × (UInt8 × List UInt8))) → Option (Int × List Int × List (List (List UInt32 × (UInt8 × List UInt8))) × Option Int)
 | 0, _, _, _ => none
 | fu_l1 + 1, ig1000000_1_36, zg1000000_2_36, d5_5 =>
  (tNext n a0_0 ig1000000_1_36 zg1000000_2_36).bind fun r24_4 =>
  bif (!r24_4.2) then
   nSteps_j1 n a0_0 ig1000000_1_36 zg1000000_2_36 d5_5
  else
   (tEnter n a0_0 ig1000000_1_36 zg1000000_2_36 49).bind fun r30_4 =>
   bif (!((r30_4.2.2).isNone)) then
    some (r30_4.1, r30_4.2.1, [], r30_4.2.2)
   else
    nSteps_l2 n a0_0 d5_5 (nSteps_l1 n a0_0 fu_l1) n r30_4.1 r30_4.2.1 []
def nSteps (n : Nat) (a0_0 : List UInt8) (a0_1 : Int) (a0_2 : List Int) : Option (Int × List Int × List (List (List UInt32 × (UInt8 × List UInt8))) × Option Int) :=
 (tEnter n a0_0 a0_1 a0_2 48).bind fun r17 =>
 bif (!((r17.2.2).isNone)) then
  some (r17.1, r17.2.1, [], r17.2.2)
 else
  nSteps_l1 n a0_0 n r17.1 r17.2.1 []
def nRead (n : Nat) (a0 : List UInt8) : Option (List (List (List UInt32 × (UInt8 × List UInt8))) × Option Int) :=
 (tNewR n a0).bind fun r8 =>
 (nSteps n r8.1 0 r8.2).bind fun r9 =>
 bif (!((r9.2.2.2).isNone)) then
  some ([], (some 2))
 else
  (nCheck n r9.2.2.1).bind fun r16 =>
  bif (!((r16).isNone)) then
   some ([], (some 2))
  else
   some (r9.2.2.1, none)
def rSame_l2 (n : Nat) (a0 : List (List (List UInt32 × (UInt8 × List UInt8)))) (a1 : List (List (List UInt32 × (UInt8 × List UInt8)))) (i5_2 : Int) (k_l1 : Int → Option (Bool)) : Nat → Int → Option (Bool)
 | 0, _ => none
 | fu_l2 + 1, i6_8 =>
  gd (0 ≤ i5_2) <|
  gd (i5_2 < ((a0.length : Nat) : Int)) <|
  bif (decide (i6_8 < (((a0.getD i5_2.toNat []).length : Nat) : Int))) then
   gd (0 ≤ i5_2) <|
   gd (i5_2 < ((a0.length : Nat) : Int)) <|
   gd (0 ≤ i6_8) <|
   gd (i6_8 < (((a0.getD i5_2.toNat []).length : Nat) : Int)) <|
   gd (0 ≤ i5_2) <|
   gd (i5_2 < ((a1.length : Nat) : Int)) <|
   gd (0 ≤ i6_8) <|
   gd (i6_8 < (((a1.getD i5_2.toNat []).length : Nat) : Int)) <|
   (sameTy n (((a0.getD i5_2.toNat []).getD i6_8.toNat ([], (0, []))).1) (((a1.getD i5_2.toNat []).getD i6_8.toNat ([], (0, []))).1)).bind fun r54_12 =>
   bif (!r54_12) then
    some false
   else
    gd (0 ≤ i5_2) <|
    gd (i5_2 < ((a0.length : Nat) : Int)) <|
    gd (0 ≤ i6_8) <|
    gd (i6_8 < (((a0.getD i5_2.toNat []).length : Nat) : Int)) <|
    gd (0 ≤ i5_2) <|
    gd (i5_2 < ((a1.length : Nat) : Int)) <|
    gd (0 ≤ i6_8) <|
    gd (i6_8 < (((a1.getD i5_2.toNat []).length : Nat) : Int)) <|
    bif ((((a0.getD i5_2.toNat []).getD i6_8.toNat ([], (0, []))).2.1) != (((a1.getD i5_2.toNat []).getD i6_8.toNat ([], (0, []))).2.1)) then
     some false
    else
     gd (0 ≤ i5_2) <|
     gd (i5_2 < ((a0.length : Nat) : Int)) <|
     gd (0 ≤ i6_8) <|
     gd (i6_8 < (((a0.getD i5_2.toNat []).length : Nat) : Int)) <|
     gd (0 ≤ i5_2) <|
     gd (i5_2 < ((a1.length : Nat) : Int)) <|
     gd (0 ≤ i6_8) <|
     gd (i6_8 < (((a1.getD i5_2.toNat []).length : Nat) : Int)) <|
     bif ((((a0.getD i5_2.toNat []).getD i6_8.toNat ([], (0, []))).2.2) != (((a1.getD i5_2.toNat []).getD i6_8.toNat ([], (0, []))).2.2)) then
      some false
     else
      gd (okI .i64 (i6_8 + 1)) <|
      (rSame_l2 n a0 a1 i5_2 k_l1 fu_l2) (i6_8 + 1)
  else
   gd (okI .i64 (i5_2 + 1)) <|
   k_l1 (i5_2 + 1)
def rSame_l1 (n : Nat) (a0 : List (List (List UInt32 × (UInt8 × List UInt8)))) (a1 : List (List (List UInt32 × (UInt8 × List UInt8)))) : Nat → Int → Option (Bool)
 | 0, _ => none
 | fu_l1 + 1, i5_2 =>
 bif (decide (i5_2 < ((a0.length : Nat) : Int))) then
 gd (0 ≤ i5_2) <|
 gd (i5_2 < ((a0.length : Nat) : Int)) <|
 gd (0 ≤ i5_2) <|
 gd (i5_2 < ((a1.length : Nat) : Int)) <|
 bif ((((a0.getD i5_2.toNat []).length : Nat) : Int) != (((a1.getD i5_2.toNat []).length : Nat) : Int)) then
 some false
 else
 rSame_l2 n a0 a1 i5_2 (rSame_l1 n a0 a1 fu_l1) n 0
 else
 some true
def rSame (n : Nat) (a0 : List (List (List UInt32 × (UInt8 × List UInt8)))) (a1 : List (List (List UInt32 × (UInt8 × List UInt8)))) : Option (Bool) :=
 bif (((a0.length : Nat) : Int) != ((a1.length : Nat) : Int)) then
 some false
 else
 rSame_l1 n a0 a1 n 0
def lStays_l2 (n : Nat) (a1 : List UInt8) (r20 : Bool) (r33 : List UInt8 × Option Int) (r54 : List UInt8 × Option Int) (r62 : List (List (List UInt32 × (UInt8 × List UInt8))) × Option Int) : Nat → List UInt8 → Int → Option (Bool)
 | 0, _, _ => none
 | fu_l2 + 1, l13_2, i17_2 =>
  bif (decide (i17_2 < ((([] ++ a1).length : Nat) : Int))) then
   gd (0 ≤ i17_2) <|
   gd (i17_2 < ((([] ++ a1).length : Nat) : Int)) <|
   gd (0 ≤ i17_2) <|
   gd (i17_2 < ((([] ++ a1).length : Nat) : Int)) <|
   gd (okI .i64 (i17_2 + 1)) <|
   (lStays_l2 n a1 r20 r33 r54 r62 fu_l2) (l13_2.set i17_2.toNat ((l13_2.getD i17_2.toNat 0) + (1 : UInt8))) (i17_2 + 1)
  else
   (nRead n a1).bind fun r86 =>
   bif r20 then
    bif (([] ++ a1) == a1) then
     bif (((r33.2).isNone) == ((r54.2).isNone)) then
      bif (r54.1 == r33.1) then
       bif (((r62.2).isNone) == ((r86.2).isNone)) then
        (rSame n r62.1 r86.1).bind fun r116 =>
        some r116
       else
        some false
      else
       some false
     else
      some false
    else
     some false
   else
    some false
def lStays_l1 (n : Nat) (a0 : List (List (List UInt32 × (UInt8 × List UInt8)))) (a1 : List UInt8) (r20 : Bool) (r33 : List UInt8 × Option Int) : Nat → List UInt8 → Int → Option (Bool)
 | 0, _, _ => none
 | fu_l1 + 1, l7_2, i10_2 =>
  bif (decide (i10_2 < ((r33.1.length : Nat) : Int))) then
   gd (0 ≤ i10_2) <|
   gd (i10_2 < ((r33.1.length : Nat) : Int)) <|
   gd (0 ≤ i10_2) <|
   gd (i10_2 < ((r33.1.length : Nat) : Int)) <|
   gd (okI .i64 (i10_2 + 1)) <|
   (lStays_l1 n a0 a1 r20 r33 fu_l1) (l7_2.set i10_2.toNat ((l7_2.getD i10_2.toNat 0) + (1 : UInt8))) (i10_2 + 1)
  else
   (nWrite n a0).bind fun r54 =>
   gd (rmB (0 + a1.length) 1) <|
   (nRead n ([] ++ a1)).bind fun r62 =>
   lStays_l2 n a1 r20 r33 r54 r62 n ([] ++ a1) 0
def lStays (n : Nat) (a0 : List (List (List UInt32 × (UInt8 × List UInt8)))) (a1 : List UInt8) : Option (Bool) :=
 (lup n).bind fun r20 =>
 (light n a0).bind fun r22 =>
 bif (!r22) then
  some r20
 else
  bif (decide ((4000 : Int) < ((a1.length : Nat) : Int))) then
   some r20
  else
   (nWrite n a0).bind fun r33 =>
   lStays_l1 n a0 a1 r20 r33 n r33.1 0
def pReadOid_j1_E (a0 : List UInt8) (i12_1 : Int) (w4_7 : List UInt32) (y5_7 : UInt64) (p6_7 : Bool) : S := ⟨[(4, kH 0), (5, kY y5_7), (6, kB p6_7), (10, kH 1), (11, kI ((a0.length : Nat) : Int)), (12, kI i12_1)], [], [nw 92 w4_7, ob 5 a0]⟩
abbrev pReadOid_j1_P (n : Nat) (a0 : List UInt8) (i12_1 : Int) (k_l1 : (List UInt32) → UInt64 → Bool → Int → Option (List UInt32 × Option Int)) (r : List UInt32 × Option Int) : S → Prop := fun s => ∃ (w4_7 : List UInt32), ∃ (y5_7 : UInt64), ∃ (p6_7 : Bool), s = pReadOid_j1_E a0 i12_1 w4_7 y5_7 p6_7 ∧ pReadOid_j1 n a0 i12_1 k_l1 w4_7 y5_7 p6_7 = some r
def pReadOid_l1_E (a0 : List UInt8) (w4_5 : List UInt32) (y5_5 : UInt64) (p6_5 : Bool) (i12_1 : Int) : S := ⟨[(4, kH 0), (5, kY y5_5), (6, kB p6_5), (10, kH 1), (11, kI ((a0.length : Nat) : Int)), (12, kI i12_1)], [], [nw 92 w4_5, ob 5 a0]⟩
abbrev pReadOid_l1_P (n : Nat) (a0 : List UInt8) (r : List UInt32 × Option Int) (fu : Nat) : S → Prop := fun s => ∃ (w4_5 : List UInt32), ∃ (y5_5 : UInt64), ∃ (p6_5 : Bool), ∃ (i12_1 : Int), s = pReadOid_l1_E a0 w4_5 y5_5 p6_5 i12_1 ∧ pReadOid_l1 n a0 fu w4_5 y5_5 p6_5 i12_1 = some r
def pReadOid_R (r : List UInt32 × Option Int) : S := ⟨[(2, kH 0), (3, kE 38 r.2)], [], [nw 92 r.1]⟩
def pReadOid_ct (n : Nat) (r : List UInt32 × Option Int) : Ct := ctc (rB 5).rd fun _ l0 => ct0 fun H => ([pReadOid n l0 = some r], shA H.length (.t [.c (.wh 0), .c (.s (.er 38 .i64 r.2))]), shH H.length [nw 92 r.1])
theorem pReadOid_ok (n : Nat) (r : List UInt32 × Option Int) : FnOk Try.prog Tr 78 (pReadOid_ct n r) := by
 refine fnok Try.func78 ?_
 refine HO_c (rB 5) fun l0 _ => HO_0 tabO_nsa (pReadOid_R r) [.tmp 2, .tmp 3] [0] 74 Try.func78 fun w hG h => ?_
 unfold pReadOid at h
 have hT := tabO_nsa
 refine Vrs hT [0] ⟨[(0, kH 0)], [], [ob 5 l0]⟩ ?_
 refine Vrs hT [0] ⟨[(0, kH 0), (4, .c (.nils))], [], [ob 5 l0]⟩ ?_
 refine Vrs hT [0] ⟨[(0, kH 0), (4, .c (.nils)), (5, kY 0), (6, kB false)], [], [ob 5 l0]⟩ ?_
 refine W_seq ?_
 refine Vrs hT [0] ⟨[(4, .c (.nils)), (5, kY 0), (6, kB false), (10, kH 0), (11, kI ((l0.length : Nat) : Int)), (12, kI 0)], [], [ob 5 l0]⟩ ?_
 refine W_block ?_
 refine Vc [.nil 4 92 1 (.w [])] [1, 0] (pReadOid_l1_E l0 [] 0 false 0) (W_lp ((pReadOid_l1_P n l0 r)) n ⟨_, _, _, _, rfl, h⟩ ?_)
 rintro fu_l1 _ ⟨w4_5, y5_5, p6_5, i12_1, rfl, h⟩
 cases fu_l1 with
 | zero => cases h
 | succ fu_l1 =>
  refine ⟨fu_l1, rfl, ?_⟩
  rw [pReadOid_l1] at h
  refine Vrs hT [0, 1] ⟨[(4, kH 0), (5, kY y5_5), (6, kB p6_5), (10, kH 1), (11, kI ((l0.length : Nat) : Int)), (12, kI i12_1), (13, kB (decide (i12_1 < ((l0.length : Nat) : Int))))], [], [nw 92 w4_5, ob 5 l0]⟩ ?_
  refine W_seq ?_
  refine Vi ((decide (i12_1 < ((l0.length : Nat) : Int)))) (fun g29 => ?_) (fun g29 => ?_)
  ·replace h := bif_t h g29
   refine Vc [] [0, 1] ⟨[(4, kH 0), (5, kY y5_5), (6, kB p6_5), (10, kH 1), (11, kI ((l0.length : Nat) : Int)), (12, kI i12_1)], [], [nw 92 w4_5, ob 5 l0]⟩ (W_skip ?_)
   refine W_join (pReadOid_j1_P n l0 i12_1 (pReadOid_l1 n l0 fu_l1) r) ?_ ?_
   ·rintro _ ⟨w4_7, y5_7, p6_7, rfl, h⟩
    unfold pReadOid_j1 at h
    obtain ⟨g1, h⟩ := gd_some h
    refine Vg hT fN [] [] [0, 1] (pReadOid_l1_E l0 w4_7 y5_7 p6_7 (i12_1 + 1)) (aP g1 aN) ?_
    exact ⟨_, _, _, _, rfl, h⟩
   ·refine W_block ?_
    obtain ⟨g2, g3, h⟩ := gd2 h
    refine Vgs hT fN [] [] [0, 1] ⟨[(4, kH 0), (5, kY y5_5), (6, kB p6_5), (8, kU (l0.getD i12_1.toNat 0)), (10, kH 1), (11, kI ((l0.length : Nat) : Int)), (12, kI i12_1)], [], [nw 92 w4_5, ob 5 l0]⟩ (aP g2 (aP g3 aN)) ?_
    refine W_seq ?_
    refine W_seq ?_
    rcases Bool.eq_false_or_eq_true (!p6_5) with g4 | g4
    ·replace h := bif_t h g4
     rcases Bool.eq_false_or_eq_true ((l0.getD i12_1.toNat 0) == 128) with g5 | g5
     ·replace h := bif_t h g5
      refine Vg hT fN [(2, true), (6, true)] [] [0, 1] ⟨[(4, kH 0), (5, kY y5_5), (8, kU (l0.getD i12_1.toNat 0)), (10, kH 1), (11, kI ((l0.length : Nat) : Int)), (12, kI i12_1), (26, kB true)], [], [nw 92 w4_5, ob 5 l0]⟩ (aP g4 (aP g5 aN)) ?_
      refine Vi (true) (fun _ => ?_) (fun hb => by cases hb)
      refine Vrs hT [] ⟨[(2, .c (.nils)), (3, kE 38 (some 2))], [], []⟩ ?_
      refine Vc [.nil 2 92 1 (.w [])] [0] (pReadOid_R ([], (some 2))) (W_ret ?_)
      exact ⟨.inl rfl, by cases h; rfl⟩
     ·replace h := bif_f h g5
      refine Vg hT fN [(2, true), (6, false)] [] [0, 1] ⟨[(4, kH 0), (5, kY y5_5), (8, kU (l0.getD i12_1.toNat 0)), (10, kH 1), (11, kI ((l0.length : Nat) : Int)), (12, kI i12_1), (26, kB (decide ((16 : Int) < ((w4_5.length : Nat) : Int))))], [], [nw 92 w4_5, ob 5 l0]⟩ (aP g4 (aP g5 aN)) ?_
      refine Vi ((decide ((16 : Int) < ((w4_5.length : Nat) : Int)))) (fun g10 => ?_) (fun g10 => ?_)
      ·replace h := bif_t h g10
       refine Vrs hT [] ⟨[(2, .c (.nils)), (3, kE 38 (some 2))], [], []⟩ ?_
       refine Vc [.nil 2 92 1 (.w [])] [0] (pReadOid_R ([], (some 2))) (W_ret ?_)
       exact ⟨.inl rfl, by cases h; rfl⟩
      ·replace h := bif_f h g10
       refine W_skip ?_
       obtain ⟨g6, h⟩ := gd_some h
       refine Vgs hT fN [] [] [0, 1] ⟨[(4, kH 0), (5, kY ((shl64 y5_5 7) ||| (((l0.getD i12_1.toNat 0) &&& (127 : UInt8)).toUInt64))), (6, kB true), (8, kU (l0.getD i12_1.toNat 0)), (10, kH 1), (11, kI ((l0.length : Nat) : Int)), (12, kI i12_1)], [], [nw 92 w4_5, ob 5 l0]⟩ (aP g6 aN) ?_
       refine W_seq ?_
       refine Vrs hT [0, 1] ⟨[(4, kH 0), (5, kY ((shl64 y5_5 7) ||| (((l0.getD i12_1.toNat 0) &&& (127 : UInt8)).toUInt64))), (6, kB true), (8, kU (l0.getD i12_1.toNat 0)), (10, kH 1), (11, kI ((l0.length : Nat) : Int)), (12, kI i12_1), (35, kB (decide ((4294967296 : UInt64) ≤ ((shl64 y5_5 7) ||| (((l0.getD i12_1.toNat 0) &&& (127 : UInt8)).toUInt64)))))], [], [nw 92 w4_5, ob 5 l0]⟩ ?_
       refine Vi ((decide ((4294967296 : UInt64) ≤ ((shl64 y5_5 7) ||| (((l0.getD i12_1.toNat 0) &&& (127 : UInt8)).toUInt64))))) (fun g9 => ?_) (fun g9 => ?_)
       ·replace h := bif_t h g9
        refine Vrs hT [] ⟨[(2, .c (.nils)), (3, kE 38 (some 2))], [], []⟩ ?_
        refine Vc [.nil 2 92 1 (.w [])] [0] (pReadOid_R ([], (some 2))) (W_ret ?_)
        exact ⟨.inl rfl, by cases h; rfl⟩
       ·replace h := bif_f h g9
        refine W_skip ?_
        refine Vrs hT [0, 1] ⟨[(4, kH 0), (5, kY ((shl64 y5_5 7) ||| (((l0.getD i12_1.toNat 0) &&& (127 : UInt8)).toUInt64))), (6, kB true), (10, kH 1), (11, kI ((l0.length : Nat) : Int)), (12, kI i12_1), (38, kB (decide ((l0.getD i12_1.toNat 0) < (128 : UInt8))))], [], [nw 92 w4_5, ob 5 l0]⟩ ?_
        refine Vi ((decide ((l0.getD i12_1.toNat 0) < (128 : UInt8)))) (fun g8 => ?_) (fun g8 => ?_)
        ·replace h := bif_t h g8
         obtain ⟨g7, h⟩ := gd_some h
         refine Vg hT fN [] [] [3, 1] (pReadOid_j1_E l0 i12_1 (w4_5 ++ [((shl64 y5_5 7) ||| (((l0.getD i12_1.toNat 0) &&& (127 : UInt8)).toUInt64)).toUInt32]) 0 false) (aP g7 aN) ?_
         exact ⟨_, _, _, rfl, h⟩
        ·replace h := bif_f h g8
         refine Vc [] [0, 1] (pReadOid_j1_E l0 i12_1 w4_5 ((shl64 y5_5 7) ||| (((l0.getD i12_1.toNat 0) &&& (127 : UInt8)).toUInt64)) true) (W_skip ?_)
         exact ⟨_, _, _, rfl, h⟩
    ·replace h := bif_f h g4
     refine Vg hT fN [(2, false)] [] [0, 1] ⟨[(4, kH 0), (5, kY y5_5), (8, kU (l0.getD i12_1.toNat 0)), (10, kH 1), (11, kI ((l0.length : Nat) : Int)), (12, kI i12_1), (26, kB (decide ((16 : Int) < ((w4_5.length : Nat) : Int))))], [], [nw 92 w4_5, ob 5 l0]⟩ (aP g4 aN) ?_
     refine Vi ((decide ((16 : Int) < ((w4_5.length : Nat) : Int)))) (fun g15 => ?_) (fun g15 => ?_)
     ·replace h := bif_t h g15
      refine Vrs hT [] ⟨[(2, .c (.nils)), (3, kE 38 (some 2))], [], []⟩ ?_
      refine Vc [.nil 2 92 1 (.w [])] [0] (pReadOid_R ([], (some 2))) (W_ret ?_)
      exact ⟨.inl rfl, by cases h; rfl⟩
     ·replace h := bif_f h g15
      refine W_skip ?_
      obtain ⟨g11, h⟩ := gd_some h
      refine Vgs hT fN [] [] [0, 1] ⟨[(4, kH 0), (5, kY ((shl64 y5_5 7) ||| (((l0.getD i12_1.toNat 0) &&& (127 : UInt8)).toUInt64))), (6, kB true), (8, kU (l0.getD i12_1.toNat 0)), (10, kH 1), (11, kI ((l0.length : Nat) : Int)), (12, kI i12_1)], [], [nw 92 w4_5, ob 5 l0]⟩ (aP g11 aN) ?_
      refine W_seq ?_
      refine Vrs hT [0, 1] ⟨[(4, kH 0), (5, kY ((shl64 y5_5 7) ||| (((l0.getD i12_1.toNat 0) &&& (127 : UInt8)).toUInt64))), (6, kB true), (8, kU (l0.getD i12_1.toNat 0)), (10, kH 1), (11, kI ((l0.length : Nat) : Int)), (12, kI i12_1), (35, kB (decide ((4294967296 : UInt64) ≤ ((shl64 y5_5 7) ||| (((l0.getD i12_1.toNat 0) &&& (127 : UInt8)).toUInt64)))))], [], [nw 92 w4_5, ob 5 l0]⟩ ?_
      refine Vi ((decide ((4294967296 : UInt64) ≤ ((shl64 y5_5 7) ||| (((l0.getD i12_1.toNat 0) &&& (127 : UInt8)).toUInt64))))) (fun g14 => ?_) (fun g14 => ?_)
      ·replace h := bif_t h g14
       refine Vrs hT [] ⟨[(2, .c (.nils)), (3, kE 38 (some 2))], [], []⟩ ?_
       refine Vc [.nil 2 92 1 (.w [])] [0] (pReadOid_R ([], (some 2))) (W_ret ?_)
       exact ⟨.inl rfl, by cases h; rfl⟩
      ·replace h := bif_f h g14
       refine W_skip ?_
       refine Vrs hT [0, 1] ⟨[(4, kH 0), (5, kY ((shl64 y5_5 7) ||| (((l0.getD i12_1.toNat 0) &&& (127 : UInt8)).toUInt64))), (6, kB true), (10, kH 1), (11, kI ((l0.length : Nat) : Int)), (12, kI i12_1), (38, kB (decide ((l0.getD i12_1.toNat 0) < (128 : UInt8))))], [], [nw 92 w4_5, ob 5 l0]⟩ ?_
       refine Vi ((decide ((l0.getD i12_1.toNat 0) < (128 : UInt8)))) (fun g13 => ?_) (fun g13 => ?_)
       ·replace h := bif_t h g13
        obtain ⟨g12, h⟩ := gd_some h
        refine Vg hT fN [] [] [3, 1] (pReadOid_j1_E l0 i12_1 (w4_5 ++ [((shl64 y5_5 7) ||| (((l0.getD i12_1.toNat 0) &&& (127 : UInt8)).toUInt64)).toUInt32]) 0 false) (aP g12 aN) ?_
        exact ⟨_, _, _, rfl, h⟩
       ·replace h := bif_f h g13
        refine Vc [] [0, 1] (pReadOid_j1_E l0 i12_1 w4_5 ((shl64 y5_5 7) ||| (((l0.getD i12_1.toNat 0) &&& (127 : UInt8)).toUInt64)) true) (W_skip ?_)
        exact ⟨_, _, _, rfl, h⟩
  ·replace h := bif_f h g29
   refine Vc [] [0] ⟨[(4, kH 0), (6, kB p6_5)], [], [nw 92 w4_5]⟩ (W_exit ?_)
   refine W_seq ?_
   refine W_seq ?_
   rcases Bool.eq_false_or_eq_true p6_5 with g16 | g16
   ·replace h := bif_t h g16
    refine Vg hT fN [(1, true)] [] [0] ⟨[(4, kH 0), (50, kB true)], [], [nw 92 w4_5]⟩ (aP g16 aN) ?_
    refine Vi (true) (fun _ => ?_) (fun hb => by cases hb)
    refine Vrs hT [] ⟨[(2, .c (.nils)), (3, kE 38 (some 2))], [], []⟩ ?_
    refine Vc [.nil 2 92 1 (.w [])] [0] (pReadOid_R ([], (some 2))) (W_ret ?_)
    exact ⟨.inl rfl, by cases h; rfl⟩
   ·replace h := bif_f h g16
    refine Vg hT fN [(1, false)] [] [0] ⟨[(4, kH 0), (50, kB (((w4_5.length : Nat) : Int) == 0))], [], [nw 92 w4_5]⟩ (aP g16 aN) ?_
    refine Vi ((((w4_5.length : Nat) : Int) == 0)) (fun g28 => ?_) (fun g28 => ?_)
    ·replace h := bif_t h g28
     refine Vrs hT [] ⟨[(2, .c (.nils)), (3, kE 38 (some 2))], [], []⟩ ?_
     refine Vc [.nil 2 92 1 (.w [])] [0] (pReadOid_R ([], (some 2))) (W_ret ?_)
     exact ⟨.inl rfl, by cases h; rfl⟩
    ·replace h := bif_f h g28
     refine W_skip ?_
     obtain ⟨g17, g18, g19, h⟩ := gd3 h
     refine Vgs hT fN [] [] [0] ⟨[(4, kH 0), (9, kX (if (2 : UInt32) < ((w4_5.getD 0 0) / (40 : UInt32)) then (2 : UInt32) else ((w4_5.getD 0 0) / (40 : UInt32))))], [], [nw 92 w4_5]⟩ (aP g17 (aP g18 (aP g19 aN))) ?_
     obtain ⟨g20, g21, g22, g23, g24, h⟩ := gd5 h
     obtain ⟨g25, h⟩ := gd_some h
     refine Vds hT (fT 11 cat_hW fN) 10 [] [(4, false), (64, false), (66, false)] [] [3] ⟨[(4, kH 0)], [], [nw 92 ((([[(if (2 : UInt32) < ((w4_5.getD 0 0) / (40 : UInt32)) then (2 : UInt32) else ((w4_5.getD 0 0) / (40 : UInt32))), ((w4_5.getD 0 0) - ((40 : UInt32) * (if (2 : UInt32) < ((w4_5.getD 0 0) / (40 : UInt32)) then (2 : UInt32) else ((w4_5.getD 0 0) / (40 : UInt32)))))], ((w4_5.drop 1).take (w4_5.length - 1))] : List (List UInt32))).flatten)]⟩ (aP g20 (aP g21 (aP g22 (aP g23 (aP g24 (aP g25 aN)))))) ?_
     refine W_seq ?_
     obtain ⟨r70_1, g26, h⟩ := bind_some' h
     refine Vgs hT (fT 1 (pident_ok n r70_1) fN) [] [] [0] ⟨[(4, kH 0), (71, kB (!r70_1))], [], [nw 92 ((([[(if (2 : UInt32) < ((w4_5.getD 0 0) / (40 : UInt32)) then (2 : UInt32) else ((w4_5.getD 0 0) / (40 : UInt32))), ((w4_5.getD 0 0) - ((40 : UInt32) * (if (2 : UInt32) < ((w4_5.getD 0 0) / (40 : UInt32)) then (2 : UInt32) else ((w4_5.getD 0 0) / (40 : UInt32)))))], ((w4_5.drop 1).take (w4_5.length - 1))] : List (List UInt32))).flatten)]⟩ (aP g26 aN) ?_
     refine Vi ((!r70_1)) (fun g27 => ?_) (fun g27 => ?_)
     ·replace h := bif_t h g27
      refine Vrs hT [] ⟨[(2, .c (.nils)), (3, kE 38 (some 2))], [], []⟩ ?_
      refine Vc [.nil 2 92 1 (.w [])] [0] (pReadOid_R ([], (some 2))) (W_ret ?_)
      exact ⟨.inl rfl, by cases h; rfl⟩
     ·replace h := bif_f h g27
      refine W_skip ?_
      refine Vrs hT [0] ⟨[(2, kH 0), (3, .c (.s (.v .nilIface)))], [], [nw 92 ((([[(if (2 : UInt32) < ((w4_5.getD 0 0) / (40 : UInt32)) then (2 : UInt32) else ((w4_5.getD 0 0) / (40 : UInt32))), ((w4_5.getD 0 0) - ((40 : UInt32) * (if (2 : UInt32) < ((w4_5.getD 0 0) / (40 : UInt32)) then (2 : UInt32) else ((w4_5.getD 0 0) / (40 : UInt32)))))], ((w4_5.drop 1).take (w4_5.length - 1))] : List (List UInt32))).flatten)]⟩ ?_
      refine Vc [.er 3 38 .i64] [0] (pReadOid_R (((([[(if (2 : UInt32) < ((w4_5.getD 0 0) / (40 : UInt32)) then (2 : UInt32) else ((w4_5.getD 0 0) / (40 : UInt32))), ((w4_5.getD 0 0) - ((40 : UInt32) * (if (2 : UInt32) < ((w4_5.getD 0 0) / (40 : UInt32)) then (2 : UInt32) else ((w4_5.getD 0 0) / (40 : UInt32)))))], ((w4_5.drop 1).take (w4_5.length - 1))] : List (List UInt32))).flatten), none)) (W_ret ?_)
      exact ⟨.inl rfl, by cases h; rfl⟩
def nOne_R (a0_0 : List UInt8) (r : Int × List Int × List UInt32 × UInt8 × List UInt8 × Option Int) : S := ⟨[(2, kP 3 0), (3, kE 38 r.2.2.2.2.2)], [(1000000, kP 0 0)], [⟨.blk, 89, 1, 3, .c [.wh 1, .s (.k .i64 r.1), .wh 2]⟩, nb 5 a0_0, nz 3 r.2.1, ⟨.blk, 46, 1, 3, .c [.wh 4, .s (.u8 r.2.2.2.1), .wh 5]⟩, nw 92 r.2.2.1, nb 5 r.2.2.2.2.1]⟩
def nOne_ct (n : Nat) (r : Int × List Int × List UInt32 × UInt8 × List UInt8 × Option Int) : CtM := ctM (cmm (mP 89 (mC (mB 5) (mC mI (mC (mZ 3) mN)))) fun y0 => cmR (nOne n y0.1 y0.2.1 y0.2.2.1 = some r) (.t [.g 3 (.c [.wh 3, .s (.u8 r.2.2.2.1), .wh 4]), .c (.s (.er 38 .i64 r.2.2.2.2.2))]) [⟨.blk, 89, 1, 3, .c [.wh 0, .s (.k .i64 r.1), .wh 1]⟩] [nb 5 y0.1, nz 3 r.2.1, ⟨.blk, 46, 1, 3, .c [.wh 3, .s (.u8 r.2.2.2.1), .wh 4]⟩, nw 92 r.2.2.1, nb 5 r.2.2.2.2.1])
theorem nOne_ok (n : Nat) (r : Int × List Int × List UInt32 × UInt8 × List UInt8 × Option Int) : FnMOk Try.prog 55 (nOne_ct n r) := by
 refine fnokM Try.func55 ?_
 refine HM_m (mP 89 (mC (mB 5) (mC mI (mC (mZ 3) mN)))) (fun (p0 : ((List UInt8) × (Int) × (List Int) × Unit)) => ?_) (allOwn_ok rfl)
 obtain ⟨l0_0, l0_1, l0_2, _⟩ := p0
 refine HM_0 tabO_nsa (nOne_R l0_0 r) [.cell 2 46, .tmp 3] [0, 1, 2, 3, 4, 5] 56 1 Try.func55 fun w bs h => ?_
 have h : nOne n l0_0 l0_1 l0_2 = some r := h
 unfold nOne at h
 have hT := tabO_nsa
 refine Vrs hT [0, 1, 2, 3] ⟨[(0, kP 0 0), (2, kP 3 0)], [(1000000, kP 0 0)], [⟨.blk, 89, 1, 3, .c [.wh 1, .s (.k .i64 l0_1), .wh 2]⟩, nb 5 l0_0, nz 3 l0_2, ⟨.blk, 46, 1, 3, .c [.nils, .s (.u8 0), .nils]⟩]⟩ ?_
 refine W_seq ?_
 obtain ⟨r12, g1, h⟩ := bind_some' h
 refine Vgs hT (fM 1 (tEnter_ok n r12) fN) [] [] [0, 4, 5, 3] ⟨[(0, kP 0 0), (2, kP 3 0), (4, kE 38 r12.2.2)], [(1000000, kP 0 0)], [⟨.blk, 89, 1, 3, .c [.wh 1, .s (.k .i64 r12.1), .wh 2]⟩, nb 5 l0_0, nz 3 r12.2.1, ⟨.blk, 46, 1, 3, .c [.nils, .s (.u8 0), .nils]⟩]⟩ (aP g1 aN) ?_
 refine Vrs hT [0, 1, 2, 3] ⟨[(0, kP 0 0), (2, kP 3 0), (4, kE 38 r12.2.2), (14, kB (!((r12.2.2).isNone)))], [(1000000, kP 0 0)], [⟨.blk, 89, 1, 3, .c [.wh 1, .s (.k .i64 r12.1), .wh 2]⟩, nb 5 l0_0, nz 3 r12.2.1, ⟨.blk, 46, 1, 3, .c [.nils, .s (.u8 0), .nils]⟩]⟩ ?_
 refine Vi ((!((r12.2.2).isNone))) (fun g10 => ?_) (fun g10 => ?_)
 ·replace h := bif_t h g10
  refine Vrs hT [0, 1, 2, 3] ⟨[(2, kP 3 0), (3, kE 38 r12.2.2)], [(1000000, kP 0 0)], [⟨.blk, 89, 1, 3, .c [.wh 1, .s (.k .i64 r12.1), .wh 2]⟩, nb 5 l0_0, nz 3 r12.2.1, ⟨.blk, 46, 1, 3, .c [.nils, .s (.u8 0), .nils]⟩]⟩ ?_
  refine Vc [.nlc 3 0 92 1 (.w []) none, .nlc 3 2 5 1 (.b []) none] [0, 1, 2, 3, 4, 5] (nOne_R l0_0 (r12.1, r12.2.1, [], 0, [], r12.2.2)) (W_ret ?_)
  exact ⟨.inl rfl, by cases h; rfl⟩
 ·replace h := bif_f h g10
  refine W_skip ?_
  obtain ⟨r19, g2, h⟩ := bind_some' h
  refine Vgs hT (fM 1 (tTake_ok n r19) fN) [] [] [0, 4, 5, 3, 6] ⟨[(0, kP 0 0), (2, kP 3 0), (5, kH 4), (6, kE 38 r19.2.2)], [(1000000, kP 0 0)], [⟨.blk, 89, 1, 3, .c [.wh 1, .s (.k .i64 r19.1), .wh 2]⟩, nb 5 l0_0, nz 3 r12.2.1, ⟨.blk, 46, 1, 3, .c [.nils, .s (.u8 0), .nils]⟩, nb 5 r19.2.1]⟩ (aP g2 aN) ?_
  refine W_seq ?_
  refine Vrs hT [0, 1, 2, 3, 4] ⟨[(0, kP 0 0), (2, kP 3 0), (5, kH 4), (6, kE 38 r19.2.2), (23, kB (!((r19.2.2).isNone)))], [(1000000, kP 0 0)], [⟨.blk, 89, 1, 3, .c [.wh 1, .s (.k .i64 r19.1), .wh 2]⟩, nb 5 l0_0, nz 3 r12.2.1, ⟨.blk, 46, 1, 3, .c [.nils, .s (.u8 0), .nils]⟩, nb 5 r19.2.1]⟩ ?_
  refine Vi ((!((r19.2.2).isNone))) (fun g9 => ?_) (fun g9 => ?_)
  ·replace h := bif_t h g9
   refine Vrs hT [0, 1, 2, 3] ⟨[(2, kP 3 0), (3, kE 38 r19.2.2)], [(1000000, kP 0 0)], [⟨.blk, 89, 1, 3, .c [.wh 1, .s (.k .i64 r19.1), .wh 2]⟩, nb 5 l0_0, nz 3 r12.2.1, ⟨.blk, 46, 1, 3, .c [.nils, .s (.u8 0), .nils]⟩]⟩ ?_
   refine Vc [.nlc 3 0 92 1 (.w []) none, .nlc 3 2 5 1 (.b []) none] [0, 1, 2, 3, 4, 5] (nOne_R l0_0 (r19.1, r12.2.1, [], 0, [], r19.2.2)) (W_ret ?_)
   exact ⟨.inl rfl, by cases h; rfl⟩
  ·replace h := bif_f h g9
   refine W_skip ?_
   obtain ⟨r28, g3, h⟩ := bind_some' h
   refine Vgs hT (fT 1 (pReadOid_ok n r28) fN) [] [] [0, 1, 2, 3, 5] ⟨[(0, kP 0 0), (2, kP 3 0), (6, kE 38 r28.2), (7, kH 4)], [(1000000, kP 0 0)], [⟨.blk, 89, 1, 3, .c [.wh 1, .s (.k .i64 r19.1), .wh 2]⟩, nb 5 l0_0, nz 3 r12.2.1, ⟨.blk, 46, 1, 3, .c [.nils, .s (.u8 0), .nils]⟩, nw 92 r28.1]⟩ (aP g3 aN) ?_
   refine W_seq ?_
   refine Vrs hT [0, 1, 2, 3, 4] ⟨[(0, kP 0 0), (2, kP 3 0), (6, kE 38 r28.2), (7, kH 4), (32, kB (!((r28.2).isNone)))], [(1000000, kP 0 0)], [⟨.blk, 89, 1, 3, .c [.wh 1, .s (.k .i64 r19.1), .wh 2]⟩, nb 5 l0_0, nz 3 r12.2.1, ⟨.blk, 46, 1, 3, .c [.nils, .s (.u8 0), .nils]⟩, nw 92 r28.1]⟩ ?_
   refine Vi ((!((r28.2).isNone))) (fun g8 => ?_) (fun g8 => ?_)
   ·replace h := bif_t h g8
    refine Vrs hT [0, 1, 2, 3] ⟨[(2, kP 3 0), (3, kE 38 r28.2)], [(1000000, kP 0 0)], [⟨.blk, 89, 1, 3, .c [.wh 1, .s (.k .i64 r19.1), .wh 2]⟩, nb 5 l0_0, nz 3 r12.2.1, ⟨.blk, 46, 1, 3, .c [.nils, .s (.u8 0), .nils]⟩]⟩ ?_
    refine Vc [.nlc 3 0 92 1 (.w []) none, .nlc 3 2 5 1 (.b []) none] [0, 1, 2, 3, 4, 5] (nOne_R l0_0 (r19.1, r12.2.1, [], 0, [], r28.2)) (W_ret ?_)
    exact ⟨.inl rfl, by cases h; rfl⟩
   ·replace h := bif_f h g8
    refine W_skip ?_
    obtain ⟨r37, g4, h⟩ := bind_some' h
    refine Vgs hT (fM 1 (tNext_ok n r37) fN) [] [] [0, 5, 6, 3, 4] ⟨[(0, kP 0 0), (2, kP 3 0), (7, kH 4), (8, kU r37.1)], [(1000000, kP 0 0)], [⟨.blk, 89, 1, 3, .c [.wh 1, .s (.k .i64 r19.1), .wh 2]⟩, nb 5 l0_0, nz 3 r12.2.1, ⟨.blk, 46, 1, 3, .c [.nils, .s (.u8 0), .nils]⟩, nw 92 r28.1]⟩ (aP g4 aN) ?_
    obtain ⟨r43, g5, h⟩ := bind_some' h
    refine Vgs hT (fM 2 (tTake_ok n r43) fN) [] [] [0, 5, 6, 3, 4, 7] ⟨[(0, kP 0 0), (2, kP 3 0), (6, kE 38 r43.2.2), (7, kH 4), (8, kU r37.1), (10, kH 5)], [(1000000, kP 0 0)], [⟨.blk, 89, 1, 3, .c [.wh 1, .s (.k .i64 r43.1), .wh 2]⟩, nb 5 l0_0, nz 3 r12.2.1, ⟨.blk, 46, 1, 3, .c [.nils, .s (.u8 0), .nils]⟩, nw 92 r28.1, nb 5 r43.2.1]⟩ (aP g5 aN) ?_
    refine W_seq ?_
    refine Vrs hT [0, 1, 2, 3, 4, 5] ⟨[(0, kP 0 0), (2, kP 3 0), (6, kE 38 r43.2.2), (7, kH 4), (8, kU r37.1), (10, kH 5), (47, kB (!((r43.2.2).isNone)))], [(1000000, kP 0 0)], [⟨.blk, 89, 1, 3, .c [.wh 1, .s (.k .i64 r43.1), .wh 2]⟩, nb 5 l0_0, nz 3 r12.2.1, ⟨.blk, 46, 1, 3, .c [.nils, .s (.u8 0), .nils]⟩, nw 92 r28.1, nb 5 r43.2.1]⟩ ?_
    refine Vi ((!((r43.2.2).isNone))) (fun g7 => ?_) (fun g7 => ?_)
    ·replace h := bif_t h g7
     refine Vrs hT [0, 1, 2, 3] ⟨[(2, kP 3 0), (3, kE 38 r43.2.2)], [(1000000, kP 0 0)], [⟨.blk, 89, 1, 3, .c [.wh 1, .s (.k .i64 r43.1), .wh 2]⟩, nb 5 l0_0, nz 3 r12.2.1, ⟨.blk, 46, 1, 3, .c [.nils, .s (.u8 0), .nils]⟩]⟩ ?_
     refine Vc [.nlc 3 0 92 1 (.w []) none, .nlc 3 2 5 1 (.b []) none] [0, 1, 2, 3, 4, 5] (nOne_R l0_0 (r43.1, r12.2.1, [], 0, [], r43.2.2)) (W_ret ?_)
     exact ⟨.inl rfl, by cases h; rfl⟩
    ·replace h := bif_f h g7
     refine W_skip ?_
     obtain ⟨r55, g6, h⟩ := bind_some' h
     refine Vgs hT (fM 5 (tLeave_ok n r55) fN) [] [] [0, 6, 7, 3, 4, 5] ⟨[(2, kP 3 0), (3, kE 38 r55.2)], [(1000000, kP 0 0)], [⟨.blk, 89, 1, 3, .c [.wh 1, .s (.k .i64 r43.1), .wh 2]⟩, nb 5 l0_0, nz 3 r55.1, ⟨.blk, 46, 1, 3, .c [.wh 4, .s (.u8 r37.1), .wh 5]⟩, nw 92 r28.1, nb 5 r43.2.1]⟩ (aP g6 aN) ?_
     refine Vc [] [0, 1, 2, 3, 4, 5] (nOne_R l0_0 (r43.1, r55.1, r28.1, r37.1, r43.2.1, r55.2)) (W_ret ?_)
     exact ⟨.inl rfl, by cases h; rfl⟩
def nSteps_j1_E (a0_0 : List UInt8) (ig1000000_1_32 : Int) (zg1000000_2_32 : List Int) (d5_4 : List (List (List UInt32 × (UInt8 × List UInt8)))) : S := ⟨[(0, kP 0 0), (5, kH 3)], [(1000000, kP 0 0)], [⟨.blk, 89, 1, 3, .c [.wh 1, .s (.k .i64 ig1000000_1_32), .wh 2]⟩, nb 5 a0_0, nz 3 zg1000000_2_32, ⟨.row, 47, 1, d5_4.length, .g 4 d5_4.length 1 []⟩, ⟨(.gs true), 47, 1, d5_4.length, .d (.sl 46 (.pr (.wo 92) (.pr .u8 (.by 5)))) d5_4⟩]⟩
abbrev nSteps_j1_P (n : Nat) (a0_0 : List UInt8) (r : Int × List Int × List (List (List UInt32 × (UInt8 × List UInt8))) × Option Int) : S → Prop := fun s => ∃ (ig1000000_1_32 : Int), ∃ (zg1000000_2_32 : List Int), ∃ (d5_4 : List (List (List UInt32 × (UInt8 × List UInt8)))), s = nSteps_j1_E a0_0 ig1000000_1_32 zg1000000_2_32 d5_4 ∧ nSteps_j1 n a0_0 ig1000000_1_32 zg1000000_2_32 d5_4 = some r
def nSteps_j2_E (a0_0 : List UInt8) (d5_5 : List (List (List UInt32 × (UInt8 × List UInt8)))) (ig1000000_1_41 : Int) (zg1000000_2_41 : List Int) (d9_34 : List (List UInt32 × (UInt8 × List UInt8))) : S := ⟨[(0, kP 0 0), (5, kH 3), (9, kH 5)], [(1000000, kP 0 0)], [⟨.blk, 89, 1, 3, .c [.wh 1, .s (.k .i64 ig1000000_1_41), .wh 2]⟩, nb 5 a0_0, nz 3 zg1000000_2_41, ⟨.row, 47, 1, d5_5.length, .g 4 d5_5.length 1 []⟩, ⟨(.gs true), 47, 1, d5_5.length, .d (.sl 46 (.pr (.wo 92) (.pr .u8 (.by 5)))) d5_5⟩, ⟨.row, 46, 3, d9_34.length, .g 6 d9_34.length 3 []⟩, ⟨(.gs true), 46, 3, d9_34.length, .d (.pr (.wo 92) (.pr .u8 (.by 5))) d9_34⟩]⟩
abbrev nSteps_j2_P (n : Nat) (a0_0 : List UInt8) (d5_5 : List (List (List UInt32 × (UInt8 × List UInt8)))) (k_l1 : Int → (List Int) → (List (List (List UInt32 × (UInt8 × List UInt8)))) → Option (Int × List Int × List (List (List UInt32 × (UInt8 × List UInt8))) × Option Int)) (r : Int × List Int × List (List (List UInt32 × (UInt8 × List UInt8))) × Option Int) : S → Prop := fun s => ∃ (ig1000000_1_41 : Int), ∃ (zg1000000_2_41 : List Int), ∃ (d9_34 : List (List UInt32 × (UInt8 × List UInt8))), s = nSteps_j2_E a0_0 d5_5 ig1000000_1_41 zg1000000_2_41 d9_34 ∧ nSteps_j2 n a0_0 d5_5 k_l1 ig1000000_1_41 zg1000000_2_41 d9_34 = some r
def nSteps_l2_E (a0_0 : List UInt8) (d5_5 : List (List (List UInt32 × (UInt8 × List UInt8)))) (ig1000000_1_42 : Int) (zg1000000_2_42 : List Int) (d9_35 : List (List UInt32 × (UInt8 × List UInt8))) : S := ⟨[(0, kP 0 0), (5, kH 3), (9, kH 5)], [(1000000, kP 0 0)], [⟨.blk, 89, 1, 3, .c [.wh 1, .s (.k .i64 ig1000000_1_42), .wh 2]⟩, nb 5 a0_0, nz 3 zg1000000_2_42, ⟨.row, 47, 1, d5_5.length, .g 4 d5_5.length 1 []⟩, ⟨(.gs true), 47, 1, d5_5.length, .d (.sl 46 (.pr (.wo 92) (.pr .u8 (.by 5)))) d5_5⟩, ⟨.row, 46, 3, d9_35.length, .g 6 d9_35.length 3 []⟩, ⟨(.gs true), 46, 3, d9_35.length, .d (.pr (.wo 92) (.pr .u8 (.by 5))) d9_35⟩]⟩
abbrev nSteps_l2_P (n : Nat) (a0_0 : List UInt8) (d5_5 : List (List (List UInt32 × (UInt8 × List UInt8)))) (k_l1 : Int → (List Int) → (List (List (List UInt32 × (UInt8 × List UInt8)))) → Option (Int × List Int × List (List (List UInt32 × (UInt8 × List UInt8))) × Option Int)) (r : Int × List Int × List (List (List UInt32 × (UInt8 × List UInt8))) × Option Int) (fu : Nat) : S → Prop := fun s => ∃ (ig1000000_1_42 : Int), ∃ (zg1000000_2_42 : List Int), ∃ (d9_35 : List (List UInt32 × (UInt8 × List UInt8))), s = nSteps_l2_E a0_0 d5_5 ig1000000_1_42 zg1000000_2_42 d9_35 ∧ nSteps_l2 n a0_0 d5_5 k_l1 fu ig1000000_1_42 zg1000000_2_42 d9_35 = some r
def nSteps_l1_E (a0_0 : List UInt8) (ig1000000_1_36 : Int) (zg1000000_2_36 : List Int) (d5_5 : List (List (List UInt32 × (UInt8 × List UInt8)))) : S := ⟨[(0, kP 0 0), (5, kH 3)], [(1000000, kP 0 0)], [⟨.blk, 89, 1, 3, .c [.wh 1, .s (.k .i64 ig1000000_1_36), .wh 2]⟩, nb 5 a0_0, nz 3 zg1000000_2_36, ⟨.row, 47, 1, d5_5.length, .g 4 d5_5.length 1 []⟩, ⟨(.gs true), 47, 1, d5_5.length, .d (.sl 46 (.pr (.wo 92) (.pr .u8 (.by 5)))) d5_5⟩]⟩
abbrev nSteps_l1_P (n : Nat) (a0_0 : List UInt8) (r : Int × List Int × List (List (List UInt32 × (UInt8 × List UInt8))) × Option Int) (fu : Nat) : S → Prop := fun s => ∃ (ig1000000_1_36 : Int), ∃ (zg1000000_2_36 : List Int), ∃ (d5_5 : List (List (List UInt32 × (UInt8 × List UInt8)))), s = nSteps_l1_E a0_0 ig1000000_1_36 zg1000000_2_36 d5_5 ∧ nSteps_l1 n a0_0 fu ig1000000_1_36 zg1000000_2_36 d5_5 = some r
def nSteps_R (a0_0 : List UInt8) (r : Int × List Int × List (List (List UInt32 × (UInt8 × List UInt8))) × Option Int) : S := ⟨[(2, kH 3), (3, kE 38 r.2.2.2)], [(1000000, kP 0 0)], [⟨.blk, 89, 1, 3, .c [.wh 1, .s (.k .i64 r.1), .wh 2]⟩, nb 5 a0_0, nz 3 r.2.1, ⟨(.dp true), 47, 1, r.2.2.1.length, .d (.sl 46 (.pr (.wo 92) (.pr .u8 (.by 5)))) r.2.2.1⟩]⟩
def nSteps_ct (n : Nat) (r : Int × List Int × List (List (List UInt32 × (UInt8 × List UInt8))) × Option Int) : CtM := ctM (cmm (mP 89 (mC (mB 5) (mC mI (mC (mZ 3) mN)))) fun y0 => cmR (nSteps n y0.1 y0.2.1 y0.2.2.1 = some r) (.t [.c (.wh 2), .c (.s (.er 38 .i64 r.2.2.2))]) [⟨.blk, 89, 1, 3, .c [.wh 0, .s (.k .i64 r.1), .wh 1]⟩] [nb 5 y0.1, nz 3 r.2.1, ⟨(.dp true), 47, 1, r.2.2.1.length, .d (.sl 46 (.pr (.wo 92) (.pr .u8 (.by 5)))) r.2.2.1⟩])
theorem nSteps_ok (n : Nat) (r : Int × List Int × List (List (List UInt32 × (UInt8 × List UInt8))) × Option Int) : FnMOk Try.prog 31 (nSteps_ct n r) := by
 refine fnokM Try.func31 ?_
 refine HM_m (mP 89 (mC (mB 5) (mC mI (mC (mZ 3) mN)))) (fun (p0 : ((List UInt8) × (Int) × (List Int) × Unit)) => ?_) (allOwn_ok rfl)
 obtain ⟨l0_0, l0_1, l0_2, _⟩ := p0
 refine HM_0 tabO_nsa (nSteps_R l0_0 r) [.tmp 2, .tmp 3] [0, 1, 2, 3] 70 1 Try.func31 fun w bs h => ?_
 have h : nSteps n l0_0 l0_1 l0_2 = some r := h
 unfold nSteps at h
 have hT := tabO_nsa
 refine Vrs hT [0, 1, 2] ⟨[(0, kP 0 0)], [(1000000, kP 0 0)], [⟨.blk, 89, 1, 3, .c [.wh 1, .s (.k .i64 l0_1), .wh 2]⟩, nb 5 l0_0, nz 3 l0_2]⟩ ?_
 refine W_seq ?_
 obtain ⟨r17, g1, h⟩ := bind_some' h
 refine Vgs hT (fM 1 (tEnter_ok n r17) fN) [] [] [0, 3, 4] ⟨[(0, kP 0 0), (4, kE 38 r17.2.2)], [(1000000, kP 0 0)], [⟨.blk, 89, 1, 3, .c [.wh 1, .s (.k .i64 r17.1), .wh 2]⟩, nb 5 l0_0, nz 3 r17.2.1]⟩ (aP g1 aN) ?_
 refine Vrs hT [0, 1, 2] ⟨[(0, kP 0 0), (4, kE 38 r17.2.2), (19, kB (!((r17.2.2).isNone)))], [(1000000, kP 0 0)], [⟨.blk, 89, 1, 3, .c [.wh 1, .s (.k .i64 r17.1), .wh 2]⟩, nb 5 l0_0, nz 3 r17.2.1]⟩ ?_
 refine Vi ((!((r17.2.2).isNone))) (fun g17 => ?_) (fun g17 => ?_)
 ·replace h := bif_t h g17
  refine Vrs hT [0, 1, 2] ⟨[(2, .c (.nils)), (3, kE 38 r17.2.2)], [(1000000, kP 0 0)], [⟨.blk, 89, 1, 3, .c [.wh 1, .s (.k .i64 r17.1), .wh 2]⟩, nb 5 l0_0, nz 3 r17.2.1]⟩ ?_
  refine W_cod [.dn 2 47 (.sl 46 (.pr (.wo 92) (.pr .u8 (.by 5))))] [] [] [2, 3] [0, 1, 2, 3] (s' := (nSteps_R l0_0 (r17.1, r17.2.1, [], r17.2.2))) (by kernel_rfl) (W_ret ?_)
  exact ⟨.inl rfl, by cases h; rfl⟩
 ·replace h := bif_f h g17
  refine W_skip ?_
  refine Vrs hT [0, 1, 2, 3] ⟨[(0, kP 0 0), (5, kH 3)], [(1000000, kP 0 0)], [⟨.blk, 89, 1, 3, .c [.wh 1, .s (.k .i64 r17.1), .wh 2]⟩, nb 5 l0_0, nz 3 r17.2.1, ⟨.row, 47, 1, 0, .c []⟩]⟩ ?_
  refine W_join (nSteps_j1_P n l0_0 r) ?_ ?_
  ·rintro _ ⟨ig1000000_1_32, zg1000000_2_32, d5_4, rfl, h⟩
   unfold nSteps_j1 at h
   refine W_seq ?_
   obtain ⟨r63_1, g2, h⟩ := bind_some' h
   refine Vgs hT (fM 1 (tLeave_ok n r63_1) fN) [] [] [0, 5, 6, 3, 4] ⟨[(0, kP 0 0), (5, kH 3), (15, kE 38 r63_1.2)], [(1000000, kP 0 0)], [⟨.blk, 89, 1, 3, .c [.wh 1, .s (.k .i64 ig1000000_1_32), .wh 2]⟩, nb 5 l0_0, nz 3 r63_1.1, ⟨.row, 47, 1, d5_4.length, .g 4 d5_4.length 1 []⟩, ⟨(.gs true), 47, 1, d5_4.length, .d (.sl 46 (.pr (.wo 92) (.pr .u8 (.by 5)))) d5_4⟩]⟩ (aP g2 aN) ?_
   refine Vrs hT [0, 1, 2, 3, 4] ⟨[(0, kP 0 0), (5, kH 3), (15, kE 38 r63_1.2), (65, kB (!((r63_1.2).isNone)))], [(1000000, kP 0 0)], [⟨.blk, 89, 1, 3, .c [.wh 1, .s (.k .i64 ig1000000_1_32), .wh 2]⟩, nb 5 l0_0, nz 3 r63_1.1, ⟨.row, 47, 1, d5_4.length, .g 4 d5_4.length 1 []⟩, ⟨(.gs true), 47, 1, d5_4.length, .d (.sl 46 (.pr (.wo 92) (.pr .u8 (.by 5)))) d5_4⟩]⟩ ?_
   refine Vi ((!((r63_1.2).isNone))) (fun g4 => ?_) (fun g4 => ?_)
   ·replace h := bif_t h g4
    refine Vrs hT [0, 1, 2] ⟨[(2, .c (.nils)), (3, kE 38 r63_1.2)], [(1000000, kP 0 0)], [⟨.blk, 89, 1, 3, .c [.wh 1, .s (.k .i64 ig1000000_1_32), .wh 2]⟩, nb 5 l0_0, nz 3 r63_1.1]⟩ ?_
    refine W_cod [.dn 2 47 (.sl 46 (.pr (.wo 92) (.pr .u8 (.by 5))))] [] [] [2, 3] [0, 1, 2, 3] (s' := (nSteps_R l0_0 (ig1000000_1_32, r63_1.1, [], r63_1.2))) (by kernel_rfl) (W_ret ?_)
    exact ⟨.inl rfl, by cases h; rfl⟩
   ·replace h := bif_f h g4
    refine W_skip ?_
    obtain ⟨r69_1, g3, h⟩ := bind_some' h
    refine Vgs hT (fM 2 (tEnd_ok n r69_1) fN) [] [] [0, 5, 6, 3, 4] ⟨[(2, kH 3), (3, kE 38 r69_1)], [(1000000, kP 0 0)], [⟨.blk, 89, 1, 3, .c [.wh 1, .s (.k .i64 ig1000000_1_32), .wh 2]⟩, nb 5 l0_0, nz 3 r63_1.1, ⟨.row, 47, 1, d5_4.length, .g 4 d5_4.length 1 []⟩, ⟨(.gs true), 47, 1, d5_4.length, .d (.sl 46 (.pr (.wo 92) (.pr .u8 (.by 5)))) d5_4⟩]⟩ (aP g3 aN) ?_
    refine W_cod [.fz 2] [d5_4.length] [] [2, 3] [0, 1, 2, 5] (s' := (nSteps_R l0_0 (ig1000000_1_32, r63_1.1, d5_4, r69_1))) (by kernel_rfl) (W_ret ?_)
    exact ⟨.inl rfl, by cases h; rfl⟩
  ·refine W_block ?_
   refine W_cod [.g0 3 (.sl 46 (.pr (.wo 92) (.pr .u8 (.by 5))))] [] [] [0, 5] [0, 1, 2, 3, 4] (s' := (nSteps_l1_E l0_0 r17.1 r17.2.1 [])) (by kernel_rfl) (W_lp ((nSteps_l1_P n l0_0 r)) n ⟨_, _, _, rfl, h⟩ ?_)
   rintro fu_l1 _ ⟨ig1000000_1_36, zg1000000_2_36, d5_5, rfl, h⟩
   cases fu_l1 with
   | zero => cases h
   | succ fu_l1 =>
    refine ⟨fu_l1, rfl, ?_⟩
    rw [nSteps_l1] at h
    refine W_block ?_
    refine W_seq ?_
    obtain ⟨r24_4, g5, h⟩ := bind_some' h
    refine Vgs hT (fM 1 (tNext_ok n r24_4) fN) [] [] [0, 5, 6, 3, 4] ⟨[(0, kP 0 0), (5, kH 3), (7, kB r24_4.2)], [(1000000, kP 0 0)], [⟨.blk, 89, 1, 3, .c [.wh 1, .s (.k .i64 ig1000000_1_36), .wh 2]⟩, nb 5 l0_0, nz 3 zg1000000_2_36, ⟨.row, 47, 1, d5_5.length, .g 4 d5_5.length 1 []⟩, ⟨(.gs true), 47, 1, d5_5.length, .d (.sl 46 (.pr (.wo 92) (.pr .u8 (.by 5)))) d5_5⟩]⟩ (aP g5 aN) ?_
    refine Vrs hT [0, 1, 2, 3, 4] ⟨[(0, kP 0 0), (5, kH 3), (28, kB (!r24_4.2))], [(1000000, kP 0 0)], [⟨.blk, 89, 1, 3, .c [.wh 1, .s (.k .i64 ig1000000_1_36), .wh 2]⟩, nb 5 l0_0, nz 3 zg1000000_2_36, ⟨.row, 47, 1, d5_5.length, .g 4 d5_5.length 1 []⟩, ⟨(.gs true), 47, 1, d5_5.length, .d (.sl 46 (.pr (.wo 92) (.pr .u8 (.by 5)))) d5_5⟩]⟩ ?_
    refine Vi ((!r24_4.2)) (fun g16 => ?_) (fun g16 => ?_)
    ·replace h := bif_t h g16
     refine Vc [] [0, 1, 2, 3, 4] (nSteps_j1_E l0_0 ig1000000_1_36 zg1000000_2_36 d5_5) (W_exit ?_)
     exact ⟨_, _, _, rfl, h⟩
    ·replace h := bif_f h g16
     refine W_skip ?_
     refine W_seq ?_
     obtain ⟨r30_4, g6, h⟩ := bind_some' h
     refine Vgs hT (fM 1 (tEnter_ok n r30_4) fN) [] [] [0, 5, 6, 3, 4] ⟨[(0, kP 0 0), (5, kH 3), (8, kE 38 r30_4.2.2)], [(1000000, kP 0 0)], [⟨.blk, 89, 1, 3, .c [.wh 1, .s (.k .i64 r30_4.1), .wh 2]⟩, nb 5 l0_0, nz 3 r30_4.2.1, ⟨.row, 47, 1, d5_5.length, .g 4 d5_5.length 1 []⟩, ⟨(.gs true), 47, 1, d5_5.length, .d (.sl 46 (.pr (.wo 92) (.pr .u8 (.by 5)))) d5_5⟩]⟩ (aP g6 aN) ?_
     refine Vrs hT [0, 1, 2, 3, 4] ⟨[(0, kP 0 0), (5, kH 3), (8, kE 38 r30_4.2.2), (32, kB (!((r30_4.2.2).isNone)))], [(1000000, kP 0 0)], [⟨.blk, 89, 1, 3, .c [.wh 1, .s (.k .i64 r30_4.1), .wh 2]⟩, nb 5 l0_0, nz 3 r30_4.2.1, ⟨.row, 47, 1, d5_5.length, .g 4 d5_5.length 1 []⟩, ⟨(.gs true), 47, 1, d5_5.length, .d (.sl 46 (.pr (.wo 92) (.pr .u8 (.by 5)))) d5_5⟩]⟩ ?_
     refine Vi ((!((r30_4.2.2).isNone))) (fun g15 => ?_) (fun g15 => ?_)
     ·replace h := bif_t h g15
      refine Vrs hT [0, 1, 2] ⟨[(2, .c (.nils)), (3, kE 38 r30_4.2.2)], [(1000000, kP 0 0)], [⟨.blk, 89, 1, 3, .c [.wh 1, .s (.k .i64 r30_4.1), .wh 2]⟩, nb 5 l0_0, nz 3 r30_4.2.1]⟩ ?_
      refine W_cod [.dn 2 47 (.sl 46 (.pr (.wo 92) (.pr .u8 (.by 5))))] [] [] [2, 3] [0, 1, 2, 3] (s' := (nSteps_R l0_0 (r30_4.1, r30_4.2.1, [], r30_4.2.2))) (by kernel_rfl) (W_ret ?_)
      exact ⟨.inl rfl, by cases h; rfl⟩
     ·replace h := bif_f h g15
      refine W_skip ?_
      refine Vrs hT [0, 1, 2, 3, 4] ⟨[(0, kP 0 0), (5, kH 3), (9, .c (.nils))], [(1000000, kP 0 0)], [⟨.blk, 89, 1, 3, .c [.wh 1, .s (.k .i64 r30_4.1), .wh 2]⟩, nb 5 l0_0, nz 3 r30_4.2.1, ⟨.row, 47, 1, d5_5.length, .g 4 d5_5.length 1 []⟩, ⟨(.gs true), 47, 1, d5_5.length, .d (.sl 46 (.pr (.wo 92) (.pr .u8 (.by 5)))) d5_5⟩]⟩ ?_
      refine W_join (nSteps_j2_P n l0_0 d5_5 (nSteps_l1 n l0_0 fu_l1) r) ?_ ?_
      ·rintro _ ⟨ig1000000_1_41, zg1000000_2_41, d9_34, rfl, h⟩
       unfold nSteps_j2 at h
       refine W_seq ?_
       obtain ⟨r54_11, g7, h⟩ := bind_some' h
       refine Vgs hT (fM 1 (tLeave_ok n r54_11) fN) [] [] [0, 7, 8, 3, 4, 5, 6] ⟨[(0, kP 0 0), (5, kH 3), (9, kH 5), (14, kE 38 r54_11.2)], [(1000000, kP 0 0)], [⟨.blk, 89, 1, 3, .c [.wh 1, .s (.k .i64 ig1000000_1_41), .wh 2]⟩, nb 5 l0_0, nz 3 r54_11.1, ⟨.row, 47, 1, d5_5.length, .g 4 d5_5.length 1 []⟩, ⟨(.gs true), 47, 1, d5_5.length, .d (.sl 46 (.pr (.wo 92) (.pr .u8 (.by 5)))) d5_5⟩, ⟨.row, 46, 3, d9_34.length, .g 6 d9_34.length 3 []⟩, ⟨(.gs true), 46, 3, d9_34.length, .d (.pr (.wo 92) (.pr .u8 (.by 5))) d9_34⟩]⟩ (aP g7 aN) ?_
       refine Vrs hT [0, 1, 2, 3, 4, 5, 6] ⟨[(0, kP 0 0), (5, kH 3), (9, kH 5), (14, kE 38 r54_11.2), (56, kB (!((r54_11.2).isNone)))], [(1000000, kP 0 0)], [⟨.blk, 89, 1, 3, .c [.wh 1, .s (.k .i64 ig1000000_1_41), .wh 2]⟩, nb 5 l0_0, nz 3 r54_11.1, ⟨.row, 47, 1, d5_5.length, .g 4 d5_5.length 1 []⟩, ⟨(.gs true), 47, 1, d5_5.length, .d (.sl 46 (.pr (.wo 92) (.pr .u8 (.by 5)))) d5_5⟩, ⟨.row, 46, 3, d9_34.length, .g 6 d9_34.length 3 []⟩, ⟨(.gs true), 46, 3, d9_34.length, .d (.pr (.wo 92) (.pr .u8 (.by 5))) d9_34⟩]⟩ ?_
       refine Vi ((!((r54_11.2).isNone))) (fun g9 => ?_) (fun g9 => ?_)
       ·replace h := bif_t h g9
        refine Vrs hT [0, 1, 2] ⟨[(2, .c (.nils)), (3, kE 38 r54_11.2)], [(1000000, kP 0 0)], [⟨.blk, 89, 1, 3, .c [.wh 1, .s (.k .i64 ig1000000_1_41), .wh 2]⟩, nb 5 l0_0, nz 3 r54_11.1]⟩ ?_
        refine W_cod [.dn 2 47 (.sl 46 (.pr (.wo 92) (.pr .u8 (.by 5))))] [] [] [2, 3] [0, 1, 2, 3] (s' := (nSteps_R l0_0 (ig1000000_1_41, r54_11.1, [], r54_11.2))) (by kernel_rfl) (W_ret ?_)
        exact ⟨.inl rfl, by cases h; rfl⟩
       ·replace h := bif_f h g9
        refine Vc [] [0, 1, 2, 3, 4, 5, 6] ⟨[(0, kP 0 0), (5, kH 3), (9, kH 5)], [(1000000, kP 0 0)], [⟨.blk, 89, 1, 3, .c [.wh 1, .s (.k .i64 ig1000000_1_41), .wh 2]⟩, nb 5 l0_0, nz 3 r54_11.1, ⟨.row, 47, 1, d5_5.length, .g 4 d5_5.length 1 []⟩, ⟨(.gs true), 47, 1, d5_5.length, .d (.sl 46 (.pr (.wo 92) (.pr .u8 (.by 5)))) d5_5⟩, ⟨.row, 46, 3, d9_34.length, .g 6 d9_34.length 3 []⟩, ⟨(.gs true), 46, 3, d9_34.length, .d (.pr (.wo 92) (.pr .u8 (.by 5))) d9_34⟩]⟩ (W_skip ?_)
        obtain ⟨g8, h⟩ := gd_some h
        refine W_weak ?_
        refine Vg hT fN [] [] [0, 1, 2, 8, 4, 5, 6] ⟨[(0, kP 0 0), (5, kH 3)], [(1000000, kP 0 0)], [⟨.blk, 89, 1, 3, .c [.wh 1, .s (.k .i64 ig1000000_1_41), .wh 2]⟩, nb 5 l0_0, nz 3 r54_11.1, ⟨.row, 47, 1, (d5_5.length + 1), .g 4 d5_5.length 1 [.wh 5]⟩, ⟨(.gs true), 47, 1, d5_5.length, .d (.sl 46 (.pr (.wo 92) (.pr .u8 (.by 5)))) d5_5⟩, ⟨.row, 46, 3, d9_34.length, .g 6 d9_34.length 3 []⟩, ⟨(.gs true), 46, 3, d9_34.length, .d (.pr (.wo 92) (.pr .u8 (.by 5))) d9_34⟩]⟩ (aP g8 aN) ?_
        refine ⟨[.fzc 3 0, .ab 3 [7]], [d9_34.length, d5_5.length], [], [0, 5], [0, 1, 2, 3, 8], (nSteps_l1_E l0_0 ig1000000_1_41 r54_11.1 (d5_5 ++ [d9_34])), (by kernel_rfl), ?_⟩
        exact ⟨_, _, _, rfl, h⟩
      ·refine W_block ?_
       refine W_cod [.co (.nil 9 46 3 (.c [])), .g0 5 (.pr (.wo 92) (.pr .u8 (.by 5)))] [] [] [0, 5, 9] [0, 1, 2, 3, 4, 5, 6] (s' := (nSteps_l2_E l0_0 d5_5 r30_4.1 r30_4.2.1 [])) (by kernel_rfl) (W_lp ((nSteps_l2_P n l0_0 d5_5 (nSteps_l1 n l0_0 fu_l1) r)) n ⟨_, _, _, rfl, h⟩ ?_)
       rintro fu_l2 _ ⟨ig1000000_1_42, zg1000000_2_42, d9_35, rfl, h⟩
       cases fu_l2 with
       | zero => cases h
       | succ fu_l2 =>
        refine ⟨fu_l2, rfl, ?_⟩
        rw [nSteps_l2] at h
        refine W_block ?_
        refine W_seq ?_
        obtain ⟨r36_28, g10, h⟩ := bind_some' h
        refine Vgs hT (fM 1 (tNext_ok n r36_28) fN) [] [] [0, 7, 8, 3, 4, 5, 6] ⟨[(0, kP 0 0), (5, kH 3), (9, kH 5), (11, kB r36_28.2)], [(1000000, kP 0 0)], [⟨.blk, 89, 1, 3, .c [.wh 1, .s (.k .i64 ig1000000_1_42), .wh 2]⟩, nb 5 l0_0, nz 3 zg1000000_2_42, ⟨.row, 47, 1, d5_5.length, .g 4 d5_5.length 1 []⟩, ⟨(.gs true), 47, 1, d5_5.length, .d (.sl 46 (.pr (.wo 92) (.pr .u8 (.by 5)))) d5_5⟩, ⟨.row, 46, 3, d9_35.length, .g 6 d9_35.length 3 []⟩, ⟨(.gs true), 46, 3, d9_35.length, .d (.pr (.wo 92) (.pr .u8 (.by 5))) d9_35⟩]⟩ (aP g10 aN) ?_
        refine Vrs hT [0, 1, 2, 3, 4, 5, 6] ⟨[(0, kP 0 0), (5, kH 3), (9, kH 5), (40, kB (!r36_28.2))], [(1000000, kP 0 0)], [⟨.blk, 89, 1, 3, .c [.wh 1, .s (.k .i64 ig1000000_1_42), .wh 2]⟩, nb 5 l0_0, nz 3 zg1000000_2_42, ⟨.row, 47, 1, d5_5.length, .g 4 d5_5.length 1 []⟩, ⟨(.gs true), 47, 1, d5_5.length, .d (.sl 46 (.pr (.wo 92) (.pr .u8 (.by 5)))) d5_5⟩, ⟨.row, 46, 3, d9_35.length, .g 6 d9_35.length 3 []⟩, ⟨(.gs true), 46, 3, d9_35.length, .d (.pr (.wo 92) (.pr .u8 (.by 5))) d9_35⟩]⟩ ?_
        refine Vi ((!r36_28.2)) (fun g14 => ?_) (fun g14 => ?_)
        ·replace h := bif_t h g14
         refine Vc [] [0, 1, 2, 3, 4, 5, 6] (nSteps_j2_E l0_0 d5_5 ig1000000_1_42 zg1000000_2_42 d9_35) (W_exit ?_)
         exact ⟨_, _, _, rfl, h⟩
        ·replace h := bif_f h g14
         refine W_skip ?_
         obtain ⟨r43_28, g11, h⟩ := bind_some' h
         refine Vgs hT (fM 1 (nOne_ok n r43_28) fN) [] [] [0, 7, 8, 3, 4, 5, 6, 12, 10, 11] ⟨[(0, kP 0 0), (5, kH 3), (9, kH 5), (12, kP 7 0), (13, kE 38 r43_28.2.2.2.2.2)], [(1000000, kP 0 0)], [⟨.blk, 89, 1, 3, .c [.wh 1, .s (.k .i64 r43_28.1), .wh 2]⟩, nb 5 l0_0, nz 3 r43_28.2.1, ⟨.row, 47, 1, d5_5.length, .g 4 d5_5.length 1 []⟩, ⟨(.gs true), 47, 1, d5_5.length, .d (.sl 46 (.pr (.wo 92) (.pr .u8 (.by 5)))) d5_5⟩, ⟨.row, 46, 3, d9_35.length, .g 6 d9_35.length 3 []⟩, ⟨(.gs true), 46, 3, d9_35.length, .d (.pr (.wo 92) (.pr .u8 (.by 5))) d9_35⟩, ⟨.blk, 46, 1, 3, .c [.wh 8, .s (.u8 r43_28.2.2.2.1), .wh 9]⟩, nw 92 r43_28.2.2.1, nb 5 r43_28.2.2.2.2.1]⟩ (aP g11 aN) ?_
         refine W_seq ?_
         refine Vrs hT [0, 1, 2, 3, 4, 5, 6, 7, 8, 9] ⟨[(0, kP 0 0), (5, kH 3), (9, kH 5), (12, kP 7 0), (13, kE 38 r43_28.2.2.2.2.2), (47, kB (!((r43_28.2.2.2.2.2).isNone)))], [(1000000, kP 0 0)], [⟨.blk, 89, 1, 3, .c [.wh 1, .s (.k .i64 r43_28.1), .wh 2]⟩, nb 5 l0_0, nz 3 r43_28.2.1, ⟨.row, 47, 1, d5_5.length, .g 4 d5_5.length 1 []⟩, ⟨(.gs true), 47, 1, d5_5.length, .d (.sl 46 (.pr (.wo 92) (.pr .u8 (.by 5)))) d5_5⟩, ⟨.row, 46, 3, d9_35.length, .g 6 d9_35.length 3 []⟩, ⟨(.gs true), 46, 3, d9_35.length, .d (.pr (.wo 92) (.pr .u8 (.by 5))) d9_35⟩, ⟨.blk, 46, 1, 3, .c [.wh 8, .s (.u8 r43_28.2.2.2.1), .wh 9]⟩, nw 92 r43_28.2.2.1, nb 5 r43_28.2.2.2.2.1]⟩ ?_
         refine Vi ((!((r43_28.2.2.2.2.2).isNone))) (fun g13 => ?_) (fun g13 => ?_)
         ·replace h := bif_t h g13
          refine Vrs hT [0, 1, 2] ⟨[(2, .c (.nils)), (3, kE 38 r43_28.2.2.2.2.2)], [(1000000, kP 0 0)], [⟨.blk, 89, 1, 3, .c [.wh 1, .s (.k .i64 r43_28.1), .wh 2]⟩, nb 5 l0_0, nz 3 r43_28.2.1]⟩ ?_
          refine W_cod [.dn 2 47 (.sl 46 (.pr (.wo 92) (.pr .u8 (.by 5))))] [] [] [2, 3] [0, 1, 2, 3] (s' := (nSteps_R l0_0 (r43_28.1, r43_28.2.1, [], r43_28.2.2.2.2.2))) (by kernel_rfl) (W_ret ?_)
          exact ⟨.inl rfl, by cases h; rfl⟩
         ·replace h := bif_f h g13
          refine Vc [] [0, 1, 2, 3, 4, 5, 6, 7, 8, 9] ⟨[(0, kP 0 0), (5, kH 3), (9, kH 5), (12, kP 7 0)], [(1000000, kP 0 0)], [⟨.blk, 89, 1, 3, .c [.wh 1, .s (.k .i64 r43_28.1), .wh 2]⟩, nb 5 l0_0, nz 3 r43_28.2.1, ⟨.row, 47, 1, d5_5.length, .g 4 d5_5.length 1 []⟩, ⟨(.gs true), 47, 1, d5_5.length, .d (.sl 46 (.pr (.wo 92) (.pr .u8 (.by 5)))) d5_5⟩, ⟨.row, 46, 3, d9_35.length, .g 6 d9_35.length 3 []⟩, ⟨(.gs true), 46, 3, d9_35.length, .d (.pr (.wo 92) (.pr .u8 (.by 5))) d9_35⟩, ⟨.blk, 46, 1, 3, .c [.wh 8, .s (.u8 r43_28.2.2.2.1), .wh 9]⟩, nw 92 r43_28.2.2.1, nb 5 r43_28.2.2.2.2.1]⟩ (W_skip ?_)
          obtain ⟨g12, h⟩ := gd_some h
          refine W_weak ?_
          refine Vg hT fN [] [] [0, 1, 2, 3, 4, 11, 6, 8, 9] ⟨[(0, kP 0 0), (5, kH 3), (9, kH 5)], [(1000000, kP 0 0)], [⟨.blk, 89, 1, 3, .c [.wh 1, .s (.k .i64 r43_28.1), .wh 2]⟩, nb 5 l0_0, nz 3 r43_28.2.1, ⟨.row, 47, 1, d5_5.length, .g 4 d5_5.length 1 []⟩, ⟨(.gs true), 47, 1, d5_5.length, .d (.sl 46 (.pr (.wo 92) (.pr .u8 (.by 5)))) d5_5⟩, ⟨.row, 46, 3, (d9_35.length + 1), .g 6 d9_35.length 3 [.wh 7, .s (.u8 r43_28.2.2.2.1), .wh 8]⟩, ⟨(.gs true), 46, 3, d9_35.length, .d (.pr (.wo 92) (.pr .u8 (.by 5))) d9_35⟩, nw 92 r43_28.2.2.1, nb 5 r43_28.2.2.2.2.1]⟩ (aP g12 aN) ?_
          refine ⟨[.ab 5 [7, 8]], [d9_35.length], [], [0, 5, 9], [0, 1, 2, 3, 4, 5, 9], (nSteps_l2_E l0_0 d5_5 r43_28.1 r43_28.2.1 (d9_35 ++ [(r43_28.2.2.1, (r43_28.2.2.2.1, r43_28.2.2.2.2.1))])), (by kernel_rfl), ?_⟩
          exact ⟨_, _, _, rfl, h⟩
def nRead_R (r : List (List (List UInt32 × (UInt8 × List UInt8))) × Option Int) : S := ⟨[(2, kH 0), (3, kE 38 r.2)], [], [⟨(.dp true), 47, 1, r.1.length, .d (.sl 46 (.pr (.wo 92) (.pr .u8 (.by 5)))) r.1⟩]⟩
def nRead_ct (n : Nat) (r : List (List (List UInt32 × (UInt8 × List UInt8))) × Option Int) : Ct := ctc (rB 5).rd fun _ l0 => ct0 fun H => ([nRead n l0 = some r], shA H.length (.t [.c (.wh 0), .c (.s (.er 38 .i64 r.2))]), shH H.length [⟨(.dp true), 47, 1, r.1.length, .d (.sl 46 (.pr (.wo 92) (.pr .u8 (.by 5)))) r.1⟩])
theorem nRead_ok (n : Nat) (r : List (List (List UInt32 × (UInt8 × List UInt8))) × Option Int) : FnOk Try.prog Tr 21 (nRead_ct n r) := by
 refine fnok Try.func21 ?_
 refine HO_c (rB 5) fun l0 _ => HO_0 tabO_nsa (nRead_R r) [.tmp 2, .tmp 3] [0] 21 Try.func21 fun w hG h => ?_
 unfold nRead at h
 have hT := tabO_nsa
 refine Vrs hT [0] ⟨[(0, kH 0)], [], [ob 5 l0]⟩ ?_
 obtain ⟨r8, g1, h⟩ := bind_some' h
 obtain ⟨r9, g2, h⟩ := bind_some' h
 refine Vgs hT (fT 1 (tNewR_ok n r8) (fM 2 (nSteps_ok n r9) fN)) [] [] [6] ⟨[(4, kH 0), (5, kE 38 r9.2.2.2)], [], [⟨(.dp true), 47, 1, r9.2.2.1.length, .d (.sl 46 (.pr (.wo 92) (.pr .u8 (.by 5)))) r9.2.2.1⟩]⟩ (aP g1 (aP g2 aN)) ?_
 refine W_seq ?_
 refine W_seq ?_
 rcases Bool.eq_false_or_eq_true (!((r9.2.2.2).isNone)) with g3 | g3
 ·replace h := bif_t h g3
  refine Vg hT fN [(2, true)] [] [0] ⟨[(4, kH 0), (18, kB true)], [], [⟨(.dp true), 47, 1, r9.2.2.1.length, .d (.sl 46 (.pr (.wo 92) (.pr .u8 (.by 5)))) r9.2.2.1⟩]⟩ (aP g3 aN) ?_
  refine Vi (true) (fun _ => ?_) (fun hb => by cases hb)
  refine Vrs hT [] ⟨[(2, .c (.nils)), (3, kE 38 (some 2))], [], []⟩ ?_
  refine W_cod [.dn 2 47 (.sl 46 (.pr (.wo 92) (.pr .u8 (.by 5))))] [] [] [2, 3] [0] (s' := (nRead_R ([], (some 2)))) (by kernel_rfl) (W_ret ?_)
  exact ⟨.inl rfl, by cases h; rfl⟩
 ·replace h := bif_f h g3
  obtain ⟨r16, g4, h⟩ := bind_some' h
  refine Vg hT (fT 4 (nCheck_ok n r16) fN) [(2, false)] [] [0] ⟨[(4, kH 0), (18, kB (!((r16).isNone)))], [], [⟨(.dp true), 47, 1, r9.2.2.1.length, .d (.sl 46 (.pr (.wo 92) (.pr .u8 (.by 5)))) r9.2.2.1⟩]⟩ (aP g3 (aP g4 aN)) ?_
  refine Vi ((!((r16).isNone))) (fun g5 => ?_) (fun g5 => ?_)
  ·replace h := bif_t h g5
   refine Vrs hT [] ⟨[(2, .c (.nils)), (3, kE 38 (some 2))], [], []⟩ ?_
   refine W_cod [.dn 2 47 (.sl 46 (.pr (.wo 92) (.pr .u8 (.by 5))))] [] [] [2, 3] [0] (s' := (nRead_R ([], (some 2)))) (by kernel_rfl) (W_ret ?_)
   exact ⟨.inl rfl, by cases h; rfl⟩
  ·replace h := bif_f h g5
   refine W_skip ?_
   refine Vrs hT [0] ⟨[(2, kH 0), (3, .c (.s (.v .nilIface)))], [], [⟨(.dp true), 47, 1, r9.2.2.1.length, .d (.sl 46 (.pr (.wo 92) (.pr .u8 (.by 5)))) r9.2.2.1⟩]⟩ ?_
   refine Vc [.er 3 38 .i64] [0] (nRead_R (r9.2.2.1, none)) (W_ret ?_)
   exact ⟨.inl rfl, by cases h; rfl⟩
def rSame_l2_E (a0 : List (List (List UInt32 × (UInt8 × List UInt8)))) (a1 : List (List (List UInt32 × (UInt8 × List UInt8)))) (i5_2 : Int) (i6_8 : Int) : S := ⟨[(0, kH 0), (1, kH 1), (5, kI i5_2), (6, kI i6_8)], [], [⟨(.dp false), 47, 1, a0.length, .d (.sl 46 (.pr (.wo 92) (.pr .u8 (.by 5)))) a0⟩, ⟨(.dp false), 47, 1, a1.length, .d (.sl 46 (.pr (.wo 92) (.pr .u8 (.by 5)))) a1⟩]⟩
abbrev rSame_l2_P (n : Nat) (a0 : List (List (List UInt32 × (UInt8 × List UInt8)))) (a1 : List (List (List UInt32 × (UInt8 × List UInt8)))) (i5_2 : Int) (k_l1 : Int → Option (Bool)) (r : Bool) (fu : Nat) : S → Prop := fun s => ∃ (i6_8 : Int), s = rSame_l2_E a0 a1 i5_2 i6_8 ∧ rSame_l2 n a0 a1 i5_2 k_l1 fu i6_8 = some r
def rSame_l1_E (a0 : List (List (List UInt32 × (UInt8 × List UInt8)))) (a1 : List (List (List UInt32 × (UInt8 × List UInt8)))) (i5_2 : Int) : S := ⟨[(0, kH 0), (1, kH 1), (5, kI i5_2)], [], [⟨(.dp false), 47, 1, a0.length, .d (.sl 46 (.pr (.wo 92) (.pr .u8 (.by 5)))) a0⟩, ⟨(.dp false), 47, 1, a1.length, .d (.sl 46 (.pr (.wo 92) (.pr .u8 (.by 5)))) a1⟩]⟩
abbrev rSame_l1_P (n : Nat) (a0 : List (List (List UInt32 × (UInt8 × List UInt8)))) (a1 : List (List (List UInt32 × (UInt8 × List UInt8)))) (r : Bool) (fu : Nat) : S → Prop := fun s => ∃ (i5_2 : Int), s = rSame_l1_E a0 a1 i5_2 ∧ rSame_l1 n a0 a1 fu i5_2 = some r
def rSame_R (r : Bool) : S := ⟨[(4, kB r)], [], []⟩
def rSame_ct (n : Nat) (r : Bool) : Ct := ctc (rD 47 (.sl 46 (.pr (.wo 92) (.pr .u8 (.by 5))))).rd fun _ l0 => ctc (rD 47 (.sl 46 (.pr (.wo 92) (.pr .u8 (.by 5))))).rd fun _ l1 => ct0 fun H => ([rSame n l0 l1 = some r], shA H.length (kB r), shH H.length [])
theorem rSame_ok (n : Nat) (r : Bool) : FnOk Try.prog Tr 23 (rSame_ct n r) := by
 refine fnok Try.func23 ?_
 refine HO_c (rD 47 (.sl 46 (.pr (.wo 92) (.pr .u8 (.by 5))))) fun (l0 : List (List (List UInt32 × (UInt8 × List UInt8)))) _ => HO_c (rD 47 (.sl 46 (.pr (.wo 92) (.pr .u8 (.by 5))))) fun (l1 : List (List (List UInt32 × (UInt8 × List UInt8)))) _ => HO_0 tabO_nsa (rSame_R r) [.tmp 4] [] 96 Try.func23 fun w hG h => ?_
 unfold rSame at h
 have hT := tabO_nsa
 refine Vrs hT [0, 1] ⟨[(0, kH 0), (1, kH 1)], [], [⟨(.dp false), 47, 1, l0.length, .d (.sl 46 (.pr (.wo 92) (.pr .u8 (.by 5)))) l0⟩, ⟨(.dp false), 47, 1, l1.length, .d (.sl 46 (.pr (.wo 92) (.pr .u8 (.by 5)))) l1⟩]⟩ ?_
 refine W_seq ?_
 refine Vrs hT [0, 1] ⟨[(0, kH 0), (1, kH 1), (11, kB (((l0.length : Nat) : Int) != ((l1.length : Nat) : Int)))], [], [⟨(.dp false), 47, 1, l0.length, .d (.sl 46 (.pr (.wo 92) (.pr .u8 (.by 5)))) l0⟩, ⟨(.dp false), 47, 1, l1.length, .d (.sl 46 (.pr (.wo 92) (.pr .u8 (.by 5)))) l1⟩]⟩ ?_
 refine Vi ((((l0.length : Nat) : Int) != ((l1.length : Nat) : Int))) (fun g40 => ?_) (fun g40 => ?_)
 ·replace h := bif_t h g40
  refine Vrs hT [] ⟨[(4, kB false)], [], []⟩ ?_
  refine Vc [] [] (rSame_R false) (W_ret ?_)
  exact ⟨.inl rfl, by cases h; rfl⟩
 ·replace h := bif_f h g40
  refine W_skip ?_
  refine W_seq ?_
  refine Vrs hT [0, 1] ⟨[(0, kH 0), (1, kH 1), (5, kI 0)], [], [⟨(.dp false), 47, 1, l0.length, .d (.sl 46 (.pr (.wo 92) (.pr .u8 (.by 5)))) l0⟩, ⟨(.dp false), 47, 1, l1.length, .d (.sl 46 (.pr (.wo 92) (.pr .u8 (.by 5)))) l1⟩]⟩ ?_
  refine W_block ?_
  refine Vc [] [0, 1] (rSame_l1_E l0 l1 0) (W_lp ((rSame_l1_P n l0 l1 r)) n ⟨_, rfl, h⟩ ?_)
  rintro fu_l1 _ ⟨i5_2, rfl, h⟩
  cases fu_l1 with
  | zero => cases h
  | succ fu_l1 =>
   refine ⟨fu_l1, rfl, ?_⟩
   rw [rSame_l1] at h
   refine W_seq ?_
   refine Vrs hT [0, 1] ⟨[(0, kH 0), (1, kH 1), (5, kI i5_2), (15, kB (decide (i5_2 < ((l0.length : Nat) : Int))))], [], [⟨(.dp false), 47, 1, l0.length, .d (.sl 46 (.pr (.wo 92) (.pr .u8 (.by 5)))) l0⟩, ⟨(.dp false), 47, 1, l1.length, .d (.sl 46 (.pr (.wo 92) (.pr .u8 (.by 5)))) l1⟩]⟩ ?_
   refine Vi ((decide (i5_2 < ((l0.length : Nat) : Int)))) (fun g39 => ?_) (fun g39 => ?_)
   ·replace h := bif_t h g39
    refine W_skip ?_
    refine W_seq ?_
    refine W_block ?_
    refine W_seq ?_
    obtain ⟨g1, g2, g3, g4, h⟩ := gd4 h
    refine Vds hT fN 10 [] [(0, false), (1, false), (5, false), (22, false), (27, false)] [] [0, 1] ⟨[(0, kH 0), (1, kH 1), (5, kI i5_2), (28, kB ((((l0.getD i5_2.toNat []).length : Nat) : Int) != (((l1.getD i5_2.toNat []).length : Nat) : Int)))], [], [⟨(.dp false), 47, 1, l0.length, .d (.sl 46 (.pr (.wo 92) (.pr .u8 (.by 5)))) l0⟩, ⟨(.dp false), 47, 1, l1.length, .d (.sl 46 (.pr (.wo 92) (.pr .u8 (.by 5)))) l1⟩]⟩ (aP g1 (aP g2 (aP g3 (aP g4 aN)))) ?_
    refine Vi (((((l0.getD i5_2.toNat []).length : Nat) : Int) != (((l1.getD i5_2.toNat []).length : Nat) : Int))) (fun g38 => ?_) (fun g38 => ?_)
    ·replace h := bif_t h g38
     refine Vrs hT [] ⟨[(4, kB false)], [], []⟩ ?_
     refine Vc [] [] (rSame_R false) (W_ret ?_)
     exact ⟨.inl rfl, by cases h; rfl⟩
    ·replace h := bif_f h g38
     refine W_skip ?_
     refine Vrs hT [0, 1] ⟨[(0, kH 0), (1, kH 1), (5, kI i5_2), (6, kI 0)], [], [⟨(.dp false), 47, 1, l0.length, .d (.sl 46 (.pr (.wo 92) (.pr .u8 (.by 5)))) l0⟩, ⟨(.dp false), 47, 1, l1.length, .d (.sl 46 (.pr (.wo 92) (.pr .u8 (.by 5)))) l1⟩]⟩ ?_
     refine W_block ?_
     refine Vc [] [0, 1] (rSame_l2_E l0 l1 i5_2 0) (W_lp ((rSame_l2_P n l0 l1 i5_2 (rSame_l1 n l0 l1 fu_l1) r)) n ⟨_, rfl, h⟩ ?_)
     rintro fu_l2 _ ⟨i6_8, rfl, h⟩
     cases fu_l2 with
     | zero => cases h
     | succ fu_l2 =>
      refine ⟨fu_l2, rfl, ?_⟩
      rw [rSame_l2] at h
      refine W_seq ?_
      obtain ⟨g5, g6, h⟩ := gd2 h
      refine Vgs hT fN [] [] [0, 1] ⟨[(0, kH 0), (1, kH 1), (5, kI i5_2), (6, kI i6_8), (35, kB (decide (i6_8 < (((l0.getD i5_2.toNat []).length : Nat) : Int))))], [], [⟨(.dp false), 47, 1, l0.length, .d (.sl 46 (.pr (.wo 92) (.pr .u8 (.by 5)))) l0⟩, ⟨(.dp false), 47, 1, l1.length, .d (.sl 46 (.pr (.wo 92) (.pr .u8 (.by 5)))) l1⟩]⟩ (aP g5 (aP g6 aN)) ?_
      refine Vi ((decide (i6_8 < (((l0.getD i5_2.toNat []).length : Nat) : Int)))) (fun g37 => ?_) (fun g37 => ?_)
      ·replace h := bif_t h g37
       refine Vc [] [0, 1] ⟨[(0, kH 0), (1, kH 1), (5, kI i5_2), (6, kI i6_8)], [], [⟨(.dp false), 47, 1, l0.length, .d (.sl 46 (.pr (.wo 92) (.pr .u8 (.by 5)))) l0⟩, ⟨(.dp false), 47, 1, l1.length, .d (.sl 46 (.pr (.wo 92) (.pr .u8 (.by 5)))) l1⟩]⟩ (W_skip ?_)
       refine W_seq ?_
       refine W_block ?_
       refine W_seq ?_
       obtain ⟨g7, g8, g9, g10, g11, h⟩ := gd5 h
       obtain ⟨g12, g13, g14, h⟩ := gd3 h
       obtain ⟨r54_12, g15, h⟩ := bind_some' h
       rcases Bool.eq_false_or_eq_true (!r54_12) with g16 | g16
       ·replace h := bif_t h g16
        refine Vd hT (fT 16 (sameTy_ok n r54_12) fN) 56 [(18, true)] [(0, false), (1, false), (5, false), (6, false), (75, false), (84, false), (93, false)] [] [0, 1] ⟨[(0, kH 0), (1, kH 1), (5, kI i5_2), (6, kI i6_8), (95, kB true)], [], [⟨(.dp false), 47, 1, l0.length, .d (.sl 46 (.pr (.wo 92) (.pr .u8 (.by 5)))) l0⟩, ⟨(.dp false), 47, 1, l1.length, .d (.sl 46 (.pr (.wo 92) (.pr .u8 (.by 5)))) l1⟩]⟩ (aP g7 (aP g8 (aP g9 (aP g10 (aP g11 (aP g12 (aP g13 (aP g14 (aP g15 (aP g16 aN)))))))))) ?_
        refine Vi (true) (fun _ => ?_) (fun hb => by cases hb)
        refine Vrs hT [] ⟨[(4, kB false)], [], []⟩ ?_
        refine Vc [] [] (rSame_R false) (W_ret ?_)
        exact ⟨.inl rfl, by cases h; rfl⟩
       ·replace h := bif_f h g16
        obtain ⟨g17, g18, g19, g20, g21, h⟩ := gd5 h
        obtain ⟨g22, g23, g24, h⟩ := gd3 h
        rcases Bool.eq_false_or_eq_true ((((l0.getD i5_2.toNat []).getD i6_8.toNat ([], (0, []))).2.1) != (((l1.getD i5_2.toNat []).getD i6_8.toNat ([], (0, []))).2.1)) with g25 | g25
        ·replace h := bif_t h g25
         refine Vd hT (fT 16 (sameTy_ok n r54_12) fN) 56 [(18, false), (37, true)] [(0, false), (1, false), (5, false), (6, false), (75, false), (84, false), (93, false)] [] [0, 1] ⟨[(0, kH 0), (1, kH 1), (5, kI i5_2), (6, kI i6_8), (95, kB true)], [], [⟨(.dp false), 47, 1, l0.length, .d (.sl 46 (.pr (.wo 92) (.pr .u8 (.by 5)))) l0⟩, ⟨(.dp false), 47, 1, l1.length, .d (.sl 46 (.pr (.wo 92) (.pr .u8 (.by 5)))) l1⟩]⟩ (aP g7 (aP g8 (aP g9 (aP g10 (aP g11 (aP g12 (aP g13 (aP g14 (aP g15 (aP g16 (aP g17 (aP g18 (aP g19 (aP g20 (aP g21 (aP g22 (aP g23 (aP g24 (aP g25 aN))))))))))))))))))) ?_
         refine Vi (true) (fun _ => ?_) (fun hb => by cases hb)
         refine Vrs hT [] ⟨[(4, kB false)], [], []⟩ ?_
         refine Vc [] [] (rSame_R false) (W_ret ?_)
         exact ⟨.inl rfl, by cases h; rfl⟩
        ·replace h := bif_f h g25
         obtain ⟨g26, g27, g28, g29, g30, h⟩ := gd5 h
         obtain ⟨g31, g32, g33, h⟩ := gd3 h
         refine Vd hT (fT 16 (sameTy_ok n r54_12) fN) 56 [(18, false), (37, false)] [(0, false), (1, false), (5, false), (6, false), (75, false), (84, false), (93, false)] [] [0, 1] ⟨[(0, kH 0), (1, kH 1), (5, kI i5_2), (6, kI i6_8), (95, kB ((((l0.getD i5_2.toNat []).getD i6_8.toNat ([], (0, []))).2.2) != (((l1.getD i5_2.toNat []).getD i6_8.toNat ([], (0, []))).2.2)))], [], [⟨(.dp false), 47, 1, l0.length, .d (.sl 46 (.pr (.wo 92) (.pr .u8 (.by 5)))) l0⟩, ⟨(.dp false), 47, 1, l1.length, .d (.sl 46 (.pr (.wo 92) (.pr .u8 (.by 5)))) l1⟩]⟩ (aP g7 (aP g8 (aP g9 (aP g10 (aP g11 (aP g12 (aP g13 (aP g14 (aP g15 (aP g16 (aP g17 (aP g18 (aP g19 (aP g20 (aP g21 (aP g22 (aP g23 (aP g24 (aP g25 (aP g26 (aP g27 (aP g28 (aP g29 (aP g30 (aP g31 (aP g32 (aP g33 aN))))))))))))))))))))))))))) ?_
         refine Vi (((((l0.getD i5_2.toNat []).getD i6_8.toNat ([], (0, []))).2.2) != (((l1.getD i5_2.toNat []).getD i6_8.toNat ([], (0, []))).2.2))) (fun g35 => ?_) (fun g35 => ?_)
         ·replace h := bif_t h g35
          refine Vrs hT [] ⟨[(4, kB false)], [], []⟩ ?_
          refine Vc [] [] (rSame_R false) (W_ret ?_)
          exact ⟨.inl rfl, by cases h; rfl⟩
         ·replace h := bif_f h g35
          refine W_skip ?_
          obtain ⟨g34, h⟩ := gd_some h
          refine Vg hT fN [] [] [0, 1] (rSame_l2_E l0 l1 i5_2 (i6_8 + 1)) (aP g34 aN) ?_
          exact ⟨_, rfl, h⟩
      ·replace h := bif_f h g37
       refine Vc [] [0, 1] ⟨[(0, kH 0), (1, kH 1), (5, kI i5_2)], [], [⟨(.dp false), 47, 1, l0.length, .d (.sl 46 (.pr (.wo 92) (.pr .u8 (.by 5)))) l0⟩, ⟨(.dp false), 47, 1, l1.length, .d (.sl 46 (.pr (.wo 92) (.pr .u8 (.by 5)))) l1⟩]⟩ (W_exit ?_)
       obtain ⟨g36, h⟩ := gd_some h
       refine Vg hT fN [] [] [0, 1] (rSame_l1_E l0 l1 (i5_2 + 1)) (aP g36 aN) ?_
       exact ⟨_, rfl, h⟩
   ·replace h := bif_f h g39
    refine Vc [] [] ⟨[], [], []⟩ (W_exit ?_)
    refine Vrs hT [] ⟨[(4, kB true)], [], []⟩ ?_
    refine Vc [] [] (rSame_R true) (W_ret ?_)
    exact ⟨.inl rfl, by cases h; rfl⟩
def lStays_l2_E (a1 : List UInt8) (r20 : Bool) (r33 : List UInt8 × Option Int) (r54 : List UInt8 × Option Int) (r62 : List (List (List UInt32 × (UInt8 × List UInt8))) × Option Int) (l13_2 : List UInt8) (i17_2 : Int) : S := ⟨[(1, kH 0), (5, kB r20), (8, kE 38 r33.2), (9, kT r33.1), (11, kH 1), (12, kE 38 r54.2), (13, kH 2), (14, kH 3), (15, kE 38 r62.2), (16, kB (([] ++ a1) == a1)), (17, kI i17_2)], [], [ob 5 a1, nb 5 r54.1, ⟨.row, 5, 1, ([] ++ a1).length, .b l13_2⟩, ⟨(.dp true), 47, 1, r62.1.length, .d (.sl 46 (.pr (.wo 92) (.pr .u8 (.by 5)))) r62.1⟩]⟩
abbrev lStays_l2_P (n : Nat) (a1 : List UInt8) (r20 : Bool) (r33 : List UInt8 × Option Int) (r54 : List UInt8 × Option Int) (r62 : List (List (List UInt32 × (UInt8 × List UInt8))) × Option Int) (r : Bool) (fu : Nat) : S → Prop := fun s => ∃ (l13_2 : List UInt8), ∃ (i17_2 : Int), s = lStays_l2_E a1 r20 r33 r54 r62 l13_2 i17_2 ∧ lStays_l2 n a1 r20 r33 r54 r62 fu l13_2 i17_2 = some r
def lStays_l1_E (a0 : List (List (List UInt32 × (UInt8 × List UInt8)))) (a1 : List UInt8) (r20 : Bool) (r33 : List UInt8 × Option Int) (l7_2 : List UInt8) (i10_2 : Int) : S := ⟨[(0, kH 0), (1, kH 1), (5, kB r20), (7, kH 2), (8, kE 38 r33.2), (9, kT r33.1), (10, kI i10_2)], [], [⟨(.dp false), 47, 1, a0.length, .d (.sl 46 (.pr (.wo 92) (.pr .u8 (.by 5)))) a0⟩, ob 5 a1, ⟨.row, 5, 1, r33.1.length, .b l7_2⟩]⟩
abbrev lStays_l1_P (n : Nat) (a0 : List (List (List UInt32 × (UInt8 × List UInt8)))) (a1 : List UInt8) (r20 : Bool) (r33 : List UInt8 × Option Int) (r : Bool) (fu : Nat) : S → Prop := fun s => ∃ (l7_2 : List UInt8), ∃ (i10_2 : Int), s = lStays_l1_E a0 a1 r20 r33 l7_2 i10_2 ∧ lStays_l1 n a0 a1 r20 r33 fu l7_2 i10_2 = some r
def lStays_R (r : Bool) : S := ⟨[(4, kB r)], [], []⟩
def lStays_ct (n : Nat) (r : Bool) : Ct := ctc (rD 47 (.sl 46 (.pr (.wo 92) (.pr .u8 (.by 5))))).rd fun _ l0 => ctc (rB 5).rd fun _ l1 => ct0 fun H => ([lStays n l0 l1 = some r], shA H.length (kB r), shH H.length [])
theorem lStays_ok (n : Nat) (r : Bool) : FnOk Try.prog Tr 9 (lStays_ct n r) := by
 refine fnok Try.func9 ?_
 refine HO_c (rD 47 (.sl 46 (.pr (.wo 92) (.pr .u8 (.by 5))))) fun (l0 : List (List (List UInt32 × (UInt8 × List UInt8)))) _ => HO_c (rB 5) fun l1 _ => HO_0 tabO_nsa (lStays_R r) [.tmp 4] [] 118 Try.func9 fun w hG h => ?_
 unfold lStays at h
 have hT := tabO_nsa
 refine Vrs hT [0, 1] ⟨[(0, kH 0), (1, kH 1)], [], [⟨(.dp false), 47, 1, l0.length, .d (.sl 46 (.pr (.wo 92) (.pr .u8 (.by 5)))) l0⟩, ob 5 l1]⟩ ?_
 obtain ⟨r20, g1, h⟩ := bind_some' h
 refine Vgs hT (fT 0 (lup_ok n r20) fN) [] [] [0, 1] ⟨[(0, kH 0), (1, kH 1), (5, kB r20)], [], [⟨(.dp false), 47, 1, l0.length, .d (.sl 46 (.pr (.wo 92) (.pr .u8 (.by 5)))) l0⟩, ob 5 l1]⟩ (aP g1 aN) ?_
 obtain ⟨r22, g2, h⟩ := bind_some' h
 refine Vgs hT (fT 1 (light_ok n r22) fN) [] [] [0, 1] ⟨[(0, kH 0), (1, kH 1), (5, kB r20), (6, kB r22)], [], [⟨(.dp false), 47, 1, l0.length, .d (.sl 46 (.pr (.wo 92) (.pr .u8 (.by 5)))) l0⟩, ob 5 l1]⟩ (aP g2 aN) ?_
 refine W_seq ?_
 refine W_seq ?_
 rcases Bool.eq_false_or_eq_true (!r22) with g3 | g3
 ·replace h := bif_t h g3
  refine Vg hT fN [(2, true)] [] [0, 1] ⟨[(0, kH 0), (1, kH 1), (5, kB r20), (29, kB true)], [], [⟨(.dp false), 47, 1, l0.length, .d (.sl 46 (.pr (.wo 92) (.pr .u8 (.by 5)))) l0⟩, ob 5 l1]⟩ (aP g3 aN) ?_
  refine Vi (true) (fun _ => ?_) (fun hb => by cases hb)
  refine Vrs hT [] ⟨[(4, kB r20)], [], []⟩ ?_
  refine Vc [] [] (lStays_R r20) (W_ret ?_)
  exact ⟨.inl rfl, by cases h; rfl⟩
 ·replace h := bif_f h g3
  refine Vg hT fN [(2, false)] [] [0, 1] ⟨[(0, kH 0), (1, kH 1), (5, kB r20), (29, kB (decide ((4000 : Int) < ((l1.length : Nat) : Int))))], [], [⟨(.dp false), 47, 1, l0.length, .d (.sl 46 (.pr (.wo 92) (.pr .u8 (.by 5)))) l0⟩, ob 5 l1]⟩ (aP g3 aN) ?_
  refine Vi ((decide ((4000 : Int) < ((l1.length : Nat) : Int)))) (fun g27 => ?_) (fun g27 => ?_)
  ·replace h := bif_t h g27
   refine Vrs hT [] ⟨[(4, kB r20)], [], []⟩ ?_
   refine Vc [] [] (lStays_R r20) (W_ret ?_)
   exact ⟨.inl rfl, by cases h; rfl⟩
  ·replace h := bif_f h g27
   refine W_skip ?_
   obtain ⟨r33, g4, h⟩ := bind_some' h
   refine Vgs hT (fT 1 (nWrite_ok n r33) fN) [] [] [0, 1, 2] ⟨[(0, kH 0), (1, kH 1), (5, kB r20), (7, kH 2), (8, kE 38 r33.2)], [], [⟨(.dp false), 47, 1, l0.length, .d (.sl 46 (.pr (.wo 92) (.pr .u8 (.by 5)))) l0⟩, ob 5 l1, nb 5 r33.1]⟩ (aP g4 aN) ?_
   refine Vrs hT [0, 1, 2] ⟨[(0, kH 0), (1, kH 1), (5, kB r20), (7, kH 2), (8, kE 38 r33.2), (9, kT r33.1)], [], [⟨(.dp false), 47, 1, l0.length, .d (.sl 46 (.pr (.wo 92) (.pr .u8 (.by 5)))) l0⟩, ob 5 l1, nb 5 r33.1]⟩ ?_
   refine W_seq ?_
   refine Vrs hT [0, 1, 2] ⟨[(0, kH 0), (1, kH 1), (5, kB r20), (7, kH 2), (8, kE 38 r33.2), (9, kT r33.1), (10, kI 0)], [], [⟨(.dp false), 47, 1, l0.length, .d (.sl 46 (.pr (.wo 92) (.pr .u8 (.by 5)))) l0⟩, ob 5 l1, nb 5 r33.1]⟩ ?_
   refine W_block ?_
   refine Vc [] [0, 1, 2] (lStays_l1_E l0 l1 r20 r33 r33.1 0) (W_lp ((lStays_l1_P n l0 l1 r20 r33 r)) n ⟨_, _, rfl, h⟩ ?_)
   rintro fu_l1 _ ⟨l7_2, i10_2, rfl, h⟩
   cases fu_l1 with
   | zero => cases h
   | succ fu_l1 =>
    refine ⟨fu_l1, rfl, ?_⟩
    rw [lStays_l1] at h
    refine W_seq ?_
    refine Vrs hT [0, 1, 2] ⟨[(0, kH 0), (1, kH 1), (5, kB r20), (7, kH 2), (8, kE 38 r33.2), (9, kT r33.1), (10, kI i10_2), (41, kB (decide (i10_2 < ((r33.1.length : Nat) : Int))))], [], [⟨(.dp false), 47, 1, l0.length, .d (.sl 46 (.pr (.wo 92) (.pr .u8 (.by 5)))) l0⟩, ob 5 l1, ⟨.row, 5, 1, r33.1.length, .b l7_2⟩]⟩ ?_
    refine Vi ((decide (i10_2 < ((r33.1.length : Nat) : Int)))) (fun g26 => ?_) (fun g26 => ?_)
    ·replace h := bif_t h g26
     refine W_skip ?_
     refine W_seq ?_
     refine W_block ?_
     obtain ⟨g5, g6, g7, g8, h⟩ := gd4 h
     refine Vg hT fN [] [] [0, 1, 2] ⟨[(0, kH 0), (1, kH 1), (5, kB r20), (7, kH 2), (8, kE 38 r33.2), (9, kT r33.1), (10, kI i10_2)], [], [⟨(.dp false), 47, 1, l0.length, .d (.sl 46 (.pr (.wo 92) (.pr .u8 (.by 5)))) l0⟩, ob 5 l1, ⟨.row, 5, 1, r33.1.length, .b (l7_2.set i10_2.toNat ((l7_2.getD i10_2.toNat 0) + (1 : UInt8)))⟩]⟩ (aP g5 (aP g6 (aP g7 (aP g8 aN)))) ?_
     obtain ⟨g9, h⟩ := gd_some h
     refine Vg hT fN [] [] [0, 1, 2] (lStays_l1_E l0 l1 r20 r33 (l7_2.set i10_2.toNat ((l7_2.getD i10_2.toNat 0) + (1 : UInt8))) (i10_2 + 1)) (aP g9 aN) ?_
     exact ⟨_, _, rfl, h⟩
    ·replace h := bif_f h g26
     refine Vc [] [0, 1] ⟨[(0, kH 0), (1, kH 1), (5, kB r20), (8, kE 38 r33.2), (9, kT r33.1)], [], [⟨(.dp false), 47, 1, l0.length, .d (.sl 46 (.pr (.wo 92) (.pr .u8 (.by 5)))) l0⟩, ob 5 l1]⟩ (W_exit ?_)
     obtain ⟨r54, g10, h⟩ := bind_some' h
     refine Vgs hT (fT 1 (nWrite_ok n r54) fN) [] [] [1, 2] ⟨[(1, kH 0), (5, kB r20), (8, kE 38 r33.2), (9, kT r33.1), (11, kH 1), (12, kE 38 r54.2)], [], [ob 5 l1, nb 5 r54.1]⟩ (aP g10 aN) ?_
     obtain ⟨g11, h⟩ := gd_some h
     refine Vgs hT fN [] [] [0, 1, 3] ⟨[(1, kH 0), (5, kB r20), (8, kE 38 r33.2), (9, kT r33.1), (11, kH 1), (12, kE 38 r54.2), (13, kH 2)], [], [ob 5 l1, nb 5 r54.1, nb 5 ([] ++ l1)]⟩ (aP g11 aN) ?_
     obtain ⟨r62, g12, h⟩ := bind_some' h
     refine Vgs hT (fT 1 (nRead_ok n r62) fN) [] [] [0, 1, 2, 3] ⟨[(1, kH 0), (5, kB r20), (8, kE 38 r33.2), (9, kT r33.1), (11, kH 1), (12, kE 38 r54.2), (13, kH 2), (14, kH 3), (15, kE 38 r62.2)], [], [ob 5 l1, nb 5 r54.1, nb 5 ([] ++ l1), ⟨(.dp true), 47, 1, r62.1.length, .d (.sl 46 (.pr (.wo 92) (.pr .u8 (.by 5)))) r62.1⟩]⟩ (aP g12 aN) ?_
     refine Vrs hT [0, 1, 2, 3] ⟨[(1, kH 0), (5, kB r20), (8, kE 38 r33.2), (9, kT r33.1), (11, kH 1), (12, kE 38 r54.2), (13, kH 2), (14, kH 3), (15, kE 38 r62.2), (16, kB (([] ++ l1) == l1))], [], [ob 5 l1, nb 5 r54.1, nb 5 ([] ++ l1), ⟨(.dp true), 47, 1, r62.1.length, .d (.sl 46 (.pr (.wo 92) (.pr .u8 (.by 5)))) r62.1⟩]⟩ ?_
     refine W_seq ?_
     refine Vrs hT [0, 1, 2, 3] ⟨[(1, kH 0), (5, kB r20), (8, kE 38 r33.2), (9, kT r33.1), (11, kH 1), (12, kE 38 r54.2), (13, kH 2), (14, kH 3), (15, kE 38 r62.2), (16, kB (([] ++ l1) == l1)), (17, kI 0)], [], [ob 5 l1, nb 5 r54.1, nb 5 ([] ++ l1), ⟨(.dp true), 47, 1, r62.1.length, .d (.sl 46 (.pr (.wo 92) (.pr .u8 (.by 5)))) r62.1⟩]⟩ ?_
     refine W_block ?_
     refine Vc [] [0, 1, 2, 3] (lStays_l2_E l1 r20 r33 r54 r62 ([] ++ l1) 0) (W_lp ((lStays_l2_P n l1 r20 r33 r54 r62 r)) n ⟨_, _, rfl, h⟩ ?_)
     rintro fu_l2 _ ⟨l13_2, i17_2, rfl, h⟩
     cases fu_l2 with
     | zero => cases h
     | succ fu_l2 =>
      refine ⟨fu_l2, rfl, ?_⟩
      rw [lStays_l2] at h
      refine W_seq ?_
      refine Vrs hT [0, 1, 2, 3] ⟨[(1, kH 0), (5, kB r20), (8, kE 38 r33.2), (9, kT r33.1), (11, kH 1), (12, kE 38 r54.2), (13, kH 2), (14, kH 3), (15, kE 38 r62.2), (16, kB (([] ++ l1) == l1)), (17, kI i17_2), (73, kB (decide (i17_2 < ((([] ++ l1).length : Nat) : Int))))], [], [ob 5 l1, nb 5 r54.1, ⟨.row, 5, 1, ([] ++ l1).length, .b l13_2⟩, ⟨(.dp true), 47, 1, r62.1.length, .d (.sl 46 (.pr (.wo 92) (.pr .u8 (.by 5)))) r62.1⟩]⟩ ?_
      refine Vi ((decide (i17_2 < ((([] ++ l1).length : Nat) : Int)))) (fun g25 => ?_) (fun g25 => ?_)
      ·replace h := bif_t h g25
       refine W_skip ?_
       refine W_seq ?_
       refine W_block ?_
       obtain ⟨g13, g14, g15, g16, h⟩ := gd4 h
       refine Vg hT fN [] [] [0, 1, 2, 3] ⟨[(1, kH 0), (5, kB r20), (8, kE 38 r33.2), (9, kT r33.1), (11, kH 1), (12, kE 38 r54.2), (13, kH 2), (14, kH 3), (15, kE 38 r62.2), (16, kB (([] ++ l1) == l1)), (17, kI i17_2)], [], [ob 5 l1, nb 5 r54.1, ⟨.row, 5, 1, ([] ++ l1).length, .b (l13_2.set i17_2.toNat ((l13_2.getD i17_2.toNat 0) + (1 : UInt8)))⟩, ⟨(.dp true), 47, 1, r62.1.length, .d (.sl 46 (.pr (.wo 92) (.pr .u8 (.by 5)))) r62.1⟩]⟩ (aP g13 (aP g14 (aP g15 (aP g16 aN)))) ?_
       obtain ⟨g17, h⟩ := gd_some h
       refine Vg hT fN [] [] [0, 1, 2, 3] (lStays_l2_E l1 r20 r33 r54 r62 (l13_2.set i17_2.toNat ((l13_2.getD i17_2.toNat 0) + (1 : UInt8))) (i17_2 + 1)) (aP g17 aN) ?_
       exact ⟨_, _, rfl, h⟩
      ·replace h := bif_f h g25
       refine Vc [] [0, 1, 3] ⟨[(1, kH 0), (5, kB r20), (8, kE 38 r33.2), (9, kT r33.1), (11, kH 1), (12, kE 38 r54.2), (14, kH 2), (15, kE 38 r62.2), (16, kB (([] ++ l1) == l1))], [], [ob 5 l1, nb 5 r54.1, ⟨(.dp true), 47, 1, r62.1.length, .d (.sl 46 (.pr (.wo 92) (.pr .u8 (.by 5)))) r62.1⟩]⟩ (W_exit ?_)
       obtain ⟨r86, g18, h⟩ := bind_some' h
       refine Vgs hT (fT 1 (nRead_ok n r86) fN) [] [] [1, 2, 3] ⟨[(5, kB r20), (8, kE 38 r33.2), (9, kT r33.1), (11, kH 0), (12, kE 38 r54.2), (14, kH 1), (15, kE 38 r62.2), (16, kB (([] ++ l1) == l1)), (18, kH 2), (19, kE 38 r86.2)], [], [nb 5 r54.1, ⟨(.dp true), 47, 1, r62.1.length, .d (.sl 46 (.pr (.wo 92) (.pr .u8 (.by 5)))) r62.1⟩, ⟨(.dp true), 47, 1, r86.1.length, .d (.sl 46 (.pr (.wo 92) (.pr .u8 (.by 5)))) r86.1⟩]⟩ (aP g18 aN) ?_
       refine W_seq ?_
       rcases Bool.eq_false_or_eq_true r20 with g19 | g19
       ·replace h := bif_t h g19
        rcases Bool.eq_false_or_eq_true (([] ++ l1) == l1) with g20 | g20
        ·replace h := bif_t h g20
         rcases Bool.eq_false_or_eq_true (((r33.2).isNone) == ((r54.2).isNone)) with g21 | g21
         ·replace h := bif_t h g21
          rcases Bool.eq_false_or_eq_true (r54.1 == r33.1) with g22 | g22
          ·replace h := bif_t h g22
           rcases Bool.eq_false_or_eq_true (((r62.2).isNone) == ((r86.2).isNone)) with g23 | g23
           ·replace h := bif_t h g23
            obtain ⟨r116, g24, h⟩ := bind_some' h
            refine Vd hT (fT 27 (rSame_ok n r116) fN) 27 [(1, true), (4, true), (11, true), (17, true), (24, true)] [(113, false), (114, false), (115, false)] [] [] ⟨[(4, kB r116)], [], []⟩ (aP g19 (aP g20 (aP g21 (aP g22 (aP g23 (aP g24 aN)))))) ?_
            refine Vc [] [] (lStays_R r116) (W_ret ?_)
            exact ⟨.inl rfl, by cases h; rfl⟩
           ·replace h := bif_f h g23
            refine Vd hT fN 27 [(1, true), (4, true), (11, true), (17, true), (24, false)] [(113, false), (114, false), (115, false)] [] [] ⟨[(4, kB false)], [], []⟩ (aP g19 (aP g20 (aP g21 (aP g22 (aP g23 aN))))) ?_
            refine Vc [] [] (lStays_R false) (W_ret ?_)
            exact ⟨.inl rfl, by cases h; rfl⟩
          ·replace h := bif_f h g22
           refine Vd hT fN 27 [(1, true), (4, true), (11, true), (17, false)] [(113, false), (114, false), (115, false)] [] [] ⟨[(4, kB false)], [], []⟩ (aP g19 (aP g20 (aP g21 (aP g22 aN)))) ?_
           refine Vc [] [] (lStays_R false) (W_ret ?_)
           exact ⟨.inl rfl, by cases h; rfl⟩
         ·replace h := bif_f h g21
          refine Vd hT fN 27 [(1, true), (4, true), (11, false)] [(113, false), (114, false), (115, false)] [] [] ⟨[(4, kB false)], [], []⟩ (aP g19 (aP g20 (aP g21 aN))) ?_
          refine Vc [] [] (lStays_R false) (W_ret ?_)
          exact ⟨.inl rfl, by cases h; rfl⟩
        ·replace h := bif_f h g20
         refine Vd hT fN 27 [(1, true), (4, false)] [(113, false), (114, false), (115, false)] [] [] ⟨[(4, kB false)], [], []⟩ (aP g19 (aP g20 aN)) ?_
         refine Vc [] [] (lStays_R false) (W_ret ?_)
         exact ⟨.inl rfl, by cases h; rfl⟩
       ·replace h := bif_f h g19
        refine Vd hT fN 27 [(1, false)] [(113, false), (114, false), (115, false)] [] [] ⟨[(4, kB false)], [], []⟩ (aP g19 aN) ?_
        refine Vc [] [] (lStays_R false) (W_ret ?_)
        exact ⟨.inl rfl, by cases h; rfl⟩
end Go.Proofs.Ytobfglafchoipaa
end
section
namespace Go.Sx
open Go Go.RowKit Go.Ch Go.Proofs.Ytobfglafchoipaa
theorem u8lt (x : UInt8) : x.toNat < 256 := x.toNat_lt
theorem bor8 {i : Int} {x : Nat} (hx : x < 256) (h1 : -9223372036854775808 ≤ i * 256) (h2 : i * 256 + x < 9223372036854775808) : bitI .or .i64 (i * 2 ^ 8) (x : Int) = i * 256 + x := by
 have e : (i * 2 ^ 8 : Int) = i * 256 := by rfl
 rw [e]
 unfold bitI
 show IntKind.i64.wrap (((BitVec.ofInt 64 (i * 256) ||| BitVec.ofInt 64 (x : Int)).toNat : Nat) : Int) = _
 have hX : (BitVec.ofInt 64 (x : Int)).toNat = x := by rw [BitVec.toNat_ofInt]; omega
 have hI : (BitVec.ofInt 64 (i * 256)).toNat = (i % 2 ^ 56).toNat * 256 := by rw [BitVec.toNat_ofInt]; omega
 have ho : (BitVec.ofInt 64 (i * 256) ||| BitVec.ofInt 64 (x : Int)).toNat = (i % 2 ^ 56).toNat * 256 + x := by
  rw [BitVec.toNat_or, hX, hI]
  have := Nat.shiftLeft_add_eq_or_of_lt (i := 8) (show x < 2 ^ 8 from hx) (i % 2 ^ 56).toNat
  rw [Nat.shiftLeft_eq] at this
  exact this.symm
 rw [ho]
 unfold IntKind.wrap
 simp [IntKind.bits, IntKind.signed]
 omega
def pRd : List UInt8 → List UInt32 → Nat → Bool → Option (List UInt32)
 | [], acc, _, bg => if bg then none else some acc
 | x :: t, acc, n, bg => if (bg = false ∧ x = 128) ∨ 16 < acc.length then none
 else if 4294967296 ≤ n * 128 + x.toNat % 128 then none
 else if x < 128 then pRd t (acc ++ [UInt32.ofNat (n * 128 + x.toNat % 128)]) 0 false else pRd t acc (n * 128 + x.toNat % 128) true
def lOf (w : List UInt32) : List UInt32 := [if 2 < w.getD 0 0 / 40 then 2 else w.getD 0 0 / 40, w.getD 0 0 - 40 * (if 2 < w.getD 0 0 / 40 then 2 else w.getD 0 0 / 40)] ++ w.drop 1
def pFin (w : List UInt32) : List UInt32 × Option Int := if w ≠ [] ∧ oidOk (lOf w) = true then (lOf w, none) else ([], some 2)
def pAll (a : List UInt8) : List UInt32 × Option Int := match pRd a [] 0 false with | none => ([], some 2) | some w => pFin w
theorem lOf_len {w : List UInt32} (h : w ≠ []) : (lOf w).length = w.length + 1 := by
 cases w with
 | nil => exact absurd rfl h
 | cons x t => simp [lOf]
theorem shl7_or (y : UInt64) (x : UInt8) (h : y.toNat < 4294967296) : (shl64 y 7 ||| (x &&& 127).toUInt64).toNat = y.toNat * 128 + x.toNat % 128 := by
 have e1 : (shl64 y 7).toNat = y.toNat * 128 := by
  unfold shl64
  rw [if_pos (by decide), UInt64.toNat_shiftLeft, show (UInt64.ofNat (7 : Int).toNat).toNat % 64 = 7 from rfl, Nat.shiftLeft_eq]
  omega
 have e2 : (x &&& 127).toUInt64.toNat = x.toNat % 128 := by
  rw [UInt8.toNat_toUInt64, UInt8.toNat_and, show (127 : UInt8).toNat = 2 ^ 7 - 1 from rfl, Nat.and_two_pow_sub_one_eq_mod]
 rw [UInt64.toNat_or, e1, e2, show y.toNat * 128 = y.toNat <<< 7 by rw [Nat.shiftLeft_eq], ← Nat.shiftLeft_add_eq_or_of_lt (Nat.mod_lt _ (by decide)), Nat.shiftLeft_eq]
def pEnd (o : Option (List UInt32)) : List UInt32 × Option Int := match o with | none => ([], some 2) | some w => pFin w
theorem flat2 (w : List UInt32) (f g : UInt32) : ([[f, g], ((w.drop 1).take (w.length - 1))] : List (List UInt32)).flatten = [f, g] ++ w.drop 1 := by
 rw [List.take_of_length_le (by simp)]; simp
theorem pReadOid_l1_is (n : Nat) {a : List UInt8} (ha : a.length ≤ 100000) : ∀ (m i fu : Nat) (w : List UInt32) (y : UInt64) (bg : Bool), i + m = a.length → m < fu → w.length ≤ 17 → y.toNat < 4294967296 →
  pReadOid_l1 n a fu w y bg (i : Int) = some (pEnd (pRd (a.drop i) w y.toNat bg)) := by
 intro m
 induction m with
 | zero =>
  intro i fu w y bg hi hf hw hy
  cases fu with
  | zero => omega
  | succ fu =>
   rw [pReadOid_l1, ite_f (decide_eq_false (by omega)), List.drop_eq_nil_of_le (show a.length ≤ i by omega), pRd]
   cases bg with
   | true => rfl
   | false =>
    rw [ite_f (by rfl)]
    by_cases h0 : w = []
    ·subst h0; rfl
    ·have hpos : 0 < w.length := List.length_pos_iff.2 h0
     rw [ite_f (by simp; omega), gd_pos (by omega), gd_pos (by omega), gd_pos (by decide), gd_pos (by omega), gd_pos (by omega), gd_pos (by omega), gd_pos (by omega), flat2]
     have hl : (lOf w).length ≤ 18 := by rw [lOf_len h0]; omega
     rw [gd_pos (by simp), gd_pos (by have := hl; unfold lOf at this; omega)]
     change ((pident n (lOf w)).bind fun r => bif !r then some ([], some 2) else some (lOf w, none)) = _
     rw [pident_is, Option.bind_some, if_neg (by simp)]
     show _ = some (pFin w)
     unfold pFin
     cases h : oidOk (lOf w) with
     | true => rw [if_pos ⟨h0, rfl⟩]; rfl
     | false => rw [if_neg (by simp)]; rfl
 | succ m ih =>
  intro i fu w y bg hi hf hw hy
  cases fu with
  | zero => omega
  | succ fu =>
   have hd := drop_at (l := a) (z := 0) (show i < a.length by omega)
   have hy7 := shl7_or y (a.getD i 0) hy
   have hlast : ∀ hw16 : w.length ≤ 16, (gd (0 ≤ (7 : Int)) <|
     bif (decide ((4294967296 : UInt64) ≤ ((shl64 y 7) ||| (((a.getD i 0) &&& (127 : UInt8)).toUInt64)))) then some ([], (some 2))
     else bif (decide ((a.getD i 0) < (128 : UInt8))) then
       gd (rmB (w.length + 1) 4) <| pReadOid_j1 n a (i : Int) (pReadOid_l1 n a fu) (w ++ [((shl64 y 7) ||| (((a.getD i 0) &&& (127 : UInt8)).toUInt64)).toUInt32]) 0 false
      else pReadOid_j1 n a (i : Int) (pReadOid_l1 n a fu) w ((shl64 y 7) ||| (((a.getD i 0) &&& (127 : UInt8)).toUInt64)) true) =
     some (pEnd (if 4294967296 ≤ y.toNat * 128 + (a.getD i 0).toNat % 128 then none
      else if a.getD i 0 < 128 then pRd (a.drop (i + 1)) (w ++ [UInt32.ofNat (y.toNat * 128 + (a.getD i 0).toNat % 128)]) 0 false else pRd (a.drop (i + 1)) w (y.toNat * 128 + (a.getD i 0).toNat % 128) true)) := by
    intro hw16
    rw [gd_pos (by decide)]
    by_cases hbig : 4294967296 ≤ y.toNat * 128 + (a.getD i 0).toNat % 128
    ·rw [if_pos hbig, ite_t (decide_eq_true (by rw [UInt64.le_iff_toNat_le, hy7]; exact hbig))]; rfl
    ·rw [if_neg hbig, ite_f (decide_eq_false (by rw [UInt64.le_iff_toNat_le, hy7]; exact hbig))]
     by_cases hlo : a.getD i 0 < 128
     ·have e32 : ((shl64 y 7) ||| (((a.getD i 0) &&& (127 : UInt8)).toUInt64)).toUInt32 = UInt32.ofNat (y.toNat * 128 + (a.getD i 0).toNat % 128) := by
       apply UInt32.toNat_inj.1
       rw [UInt64.toNat_toUInt32, hy7]; simp
      rw [if_pos hlo, ite_t (decide_eq_true hlo), gd_pos (by unfold rmB; omega)]
      unfold pReadOid_j1
      rw [gd_pos (okI64 (by omega) (by omega)), e32]
      exact ih (i + 1) fu _ 0 false (by omega) (by omega) (by simp; omega) (by decide)
     ·rw [if_neg hlo, ite_f (decide_eq_false hlo)]
      unfold pReadOid_j1
      rw [gd_pos (okI64 (by omega) (by omega))]
      have := ih (i + 1) fu w ((shl64 y 7) ||| (((a.getD i 0) &&& (127 : UInt8)).toUInt64)) true (by omega) (by omega) hw (by rw [hy7]; omega)
      rw [hy7] at this
      exact this
   rw [pReadOid_l1, ite_t (decide_eq_true (by omega)), gd_pos (by omega), gd_pos (by omega), hd, pRd, Int.toNat_natCast]
   cases bg with
   | true =>
    rw [ite_f (by rfl)]
    by_cases h16 : 16 < w.length
    ·rw [ite_t (decide_eq_true (by omega)), if_pos (.inr h16)]; rfl
    ·rw [ite_f (decide_eq_false (by omega)), if_neg (by rintro (⟨h, _⟩ | h); cases h; exact h16 h)]
     exact hlast (by omega)
   | false =>
    rw [ite_t (by rfl)]
    by_cases h128 : a.getD i 0 = 128
    ·rw [ite_t (by rw [h128]; rfl), if_pos (.inl ⟨rfl, h128⟩)]; rfl
    ·rw [ite_f (beq_eq_false_iff_ne.2 h128)]
     by_cases h16 : 16 < w.length
     ·rw [ite_t (decide_eq_true (by omega)), if_pos (.inr h16)]; rfl
     ·rw [ite_f (decide_eq_false (by omega)), if_neg (by rintro (⟨_, h⟩ | h); exact h128 h; exact h16 h)]
      exact hlast (by omega)
theorem pReadOid_is {n : Nat} {a : List UInt8} (ha : a.length ≤ 100000) (hn : a.length < n) : pReadOid n a = some (pAll a) := by
 unfold pReadOid
 have := pReadOid_l1_is n ha a.length 0 n [] 0 false (by omega) (by omega) (by simp) (by decide)
 rw [List.drop_zero] at this
 exact this
def mkV (m : UInt8) : Bool := m % 32 != 31
def whV (m : UInt8) : Bool := (m &&& 32) != 0
theorem tisW_is (n : Nat) (m : UInt8) : tisW n m = some (whV m) := rfl
theorem tvalid_v (n : Nat) (m : UInt8) : tvalid n m = some (mkV m) := tvalid_is n m
def bN (b : List UInt8) (i : Nat) : Nat := (b.getD i 0).toNat
theorem bN_lt (b : List UInt8) (i : Nat) : bN b i < 256 := u8lt _
def hJ (b : List UInt8) (i v : Nat) : Int × Int × Bool := ((i : Int), (v : Int), decide (i + v ≤ b.length))
def hR (b : List UInt8) : Int × Int × Bool :=
 if b.length < 2 ∨ mkV (b.getD 0 0) = false then (0, 0, false)
 else if bN b 1 < 128 then hJ b 2 (bN b 1)
 else if bN b 1 = 129 then (if b.length < 3 ∨ bN b 2 < 128 then (0, 0, false) else hJ b 3 (bN b 2))
 else if bN b 1 = 130 then (if b.length < 4 ∨ bN b 2 * 256 + bN b 3 < 256 then (0, 0, false) else hJ b 4 (bN b 2 * 256 + bN b 3))
 else (0, 0, false)
theorem j1_hJ (n : Nat) {b : List UInt8} (hb : b.length ≤ 1000000) {i : Nat} (hi : i ≤ b.length) (v : Nat) : thead_j1 n b (i : Int) (v : Int) = some (hJ b i v) := by
 unfold thead_j1 hJ
 rw [gd_pos (okI64 (by omega) (by omega))]
 have e : decide ((v : Int) ≤ ((b.length : Nat) : Int) - (i : Int)) = decide (i + v ≤ b.length) := decide_eq_decide.2 (by omega)
 rw [e]
theorem getD_dt (b : List UInt8) (k j : Nat) (h : j < k) : ((b.drop 2).take k).getD j 0 = b.getD (2 + j) 0 := by
 rw [List.getD_eq_getElem?_getD, List.getElem?_take, if_pos h, List.getElem?_drop, ← List.getD_eq_getElem?_getD]
theorem l1_one (n : Nat) {b : List UInt8} (hb : b.length ≤ 1000000) (h1 : bN b 1 = 129) (h3 : 3 ≤ b.length) (fu : Nat) : thead_l1 n b (fu + 2) 0 0 = some (if bN b 2 < 128 then (0, 0, false) else hJ b 3 (bN b 2)) := by
 have e1 : ((((b.getD 1 0).toNat : Nat) : Int) - 128) = 1 := by have : (b.getD 1 0).toNat = 129 := h1; omega
 have hx := bN_lt b 2
 rw [thead_l1]
 simp only [e1]
 rw [ite_t (by decide), gd_pos (by decide), gd_pos (by decide), gd_pos (by decide), gd_pos (by decide), gd_pos (okI64 (by decide) (by decide)), gd_pos (okI64 (by decide) (by decide))]
 have e2 : (((b.drop 2).take ((2 + (1 : Int)).toNat - 2)).getD (0 : Int).toNat 0) = b.getD 2 0 := getD_dt b 1 0 (by decide)
 rw [e2, bor8 (u8lt _) (by decide) (by have := u8lt (b.getD 2 0); omega), thead_l1]
 simp only [e1]
 rw [ite_f (by decide), show (0 : Int) * 256 + (((b.getD 2 0).toNat : Nat) : Int) = ((bN b 2 : Nat) : Int) by unfold bN; omega]
 by_cases hv : bN b 2 < 128
 ·rw [ite_t (decide_eq_true (by omega)), if_pos hv]
 ·rw [ite_f (decide_eq_false (by omega)), if_neg hv, ite_f (by decide)]
  exact j1_hJ n hb h3 _
theorem l1_two (n : Nat) {b : List UInt8} (hb : b.length ≤ 1000000) (h1 : bN b 1 = 130) (h4 : 4 ≤ b.length) (fu : Nat) : thead_l1 n b (fu + 3) 0 0 = some (if bN b 2 * 256 + bN b 3 < 256 then (0, 0, false) else hJ b 4 (bN b 2 * 256 + bN b 3)) := by
 have e1 : ((((b.getD 1 0).toNat : Nat) : Int) - 128) = 2 := by have : (b.getD 1 0).toNat = 130 := h1; omega
 have hx := bN_lt b 2
 have hy := bN_lt b 3
 rw [thead_l1]
 simp only [e1]
 rw [ite_t (by decide), gd_pos (by decide), gd_pos (by decide), gd_pos (by decide), gd_pos (by decide), gd_pos (okI64 (by decide) (by decide)), gd_pos (okI64 (by decide) (by decide))]
 have e2 : (((b.drop 2).take ((2 + (2 : Int)).toNat - 2)).getD (0 : Int).toNat 0) = b.getD 2 0 := getD_dt b 2 0 (by decide)
 have e3 : (((b.drop 2).take ((2 + (2 : Int)).toNat - 2)).getD (0 + 1 : Int).toNat 0) = b.getD 3 0 := getD_dt b 2 1 (by decide)
 rw [e2, bor8 (u8lt _) (by decide) (by have := u8lt (b.getD 2 0); omega), show (0 : Int) * 256 + (((b.getD 2 0).toNat : Nat) : Int) = ((bN b 2 : Nat) : Int) by unfold bN; omega, thead_l1]
 simp only [e1]
 rw [ite_t (by decide), gd_pos (by decide), gd_pos (by decide), gd_pos (by decide), gd_pos (by decide), gd_pos (okI64 (by omega) (by omega)), gd_pos (okI64 (by decide) (by decide)), e3, bor8 (u8lt _) (by omega) (by have := u8lt (b.getD 3 0); omega), thead_l1]
 simp only [e1]
 rw [ite_f (by decide), show ((bN b 2 : Nat) : Int) * 256 + (((b.getD 3 0).toNat : Nat) : Int) = ((bN b 2 * 256 + bN b 3 : Nat) : Int) by unfold bN; omega]
 by_cases hv : bN b 2 * 256 + bN b 3 < 256
 ·rw [if_pos hv]
  by_cases hw : bN b 2 * 256 + bN b 3 < 128
  ·rw [ite_t (decide_eq_true (by omega))]
  ·rw [ite_f (decide_eq_false (by omega)), ite_t (by decide), ite_t (decide_eq_true (by omega))]
 ·rw [if_neg hv, ite_f (decide_eq_false (by omega)), ite_t (by decide), ite_f (decide_eq_false (by omega))]
  exact j1_hJ n hb h4 _
theorem thead_cf {n : Nat} (hn : 3 ≤ n) {b : List UInt8} (hb : b.length ≤ 1000000) : thead n b = some (hR b) := by
 unfold thead hR
 by_cases h2 : b.length < 2
 ·rw [ite_t (decide_eq_true (by omega)), if_pos (.inl h2)]
 ·rw [ite_f (decide_eq_false (by omega)), gd_pos (by omega), gd_pos (by omega), tvalid_v, Option.bind_some]
  cases hm : mkV (b.getD 0 0) with
  | false => rw [if_pos (.inr rfl)]; rfl
  | true =>
   rw [ite_f (by rfl), if_neg (by rintro (h | h); exact h2 h; cases h), gd_pos (by omega), gd_pos (by omega)]
   have hx := bN_lt b 1
   have hxe : (((b.getD 1 0).toNat : Nat) : Int) = ((bN b 1 : Nat) : Int) := rfl
   by_cases h8 : bN b 1 < 128
   ·rw [if_pos h8, ite_f (decide_eq_false (by omega))]
    exact j1_hJ n hb (show 2 ≤ b.length by omega) _
   ·rw [if_neg h8, ite_t (decide_eq_true (by omega)), gd_pos (okI64 (by omega) (by omega))]
    by_cases h128 : bN b 1 = 128
    ·rw [ite_t (decide_eq_true (by omega)), if_neg (by omega), if_neg (by omega)]
    ·rw [ite_f (decide_eq_false (by omega))]
     by_cases h9 : bN b 1 = 129
     ·rw [if_pos h9, ite_f (decide_eq_false (by omega)), gd_pos (okI64 (by omega) (by omega))]
      by_cases h3 : b.length < 3
      ·rw [ite_t (decide_eq_true (by omega)), if_pos (.inl h3)]
      ·rw [ite_f (decide_eq_false (by omega)), gd_pos (okI64 (by omega) (by omega)), gd_pos (by omega), gd_pos (by omega), gd_pos (by omega)]
       obtain ⟨fu, rfl⟩ : ∃ fu, n = fu + 2 := ⟨n - 2, by omega⟩
       rw [l1_one _ hb h9 (by omega)]
       by_cases hv : bN b 2 < 128
       ·rw [if_pos hv, if_pos (.inr hv)]
       ·rw [if_neg hv, if_neg (by rintro (h | h); exact h3 h; exact hv h)]
     ·rw [if_neg h9]
      by_cases h10 : bN b 1 = 130
      ·rw [if_pos h10, ite_f (decide_eq_false (by omega)), gd_pos (okI64 (by omega) (by omega))]
       by_cases h3 : b.length < 4
       ·rw [ite_t (decide_eq_true (by omega)), if_pos (.inl h3)]
       ·rw [ite_f (decide_eq_false (by omega)), gd_pos (okI64 (by omega) (by omega)), gd_pos (by omega), gd_pos (by omega), gd_pos (by omega)]
        obtain ⟨fu, rfl⟩ : ∃ fu, n = fu + 3 := ⟨n - 3, by omega⟩
        rw [l1_two _ hb h10 (by omega)]
        by_cases hv : bN b 2 * 256 + bN b 3 < 256
        ·rw [if_pos hv, if_pos (.inr hv)]
        ·rw [if_neg hv, if_neg (by rintro (h | h); exact h3 h; exact hv h)]
      ·rw [if_neg h10, ite_t (decide_eq_true (by omega))]
def elO (L : List UInt8) : Option (UInt8 × List UInt8 × List UInt8) :=
 if (hR L).2.2 = true then some (L.getD 0 0, (L.drop (hR L).1.toNat).take (hR L).2.1.toNat, L.drop ((hR L).1.toNat + (hR L).2.1.toNat)) else none
theorem ofInt_lt {k : Nat} (h : k < 256) : (UInt8.ofInt (k : Int)).toNat = k := by
 unfold UInt8.ofInt; simp; omega
theorem ofInt_bN (b : List UInt8) (i : Nat) : UInt8.ofInt ((bN b i : Nat) : Int) = b.getD i 0 := by
 apply UInt8.toNat_inj.1; rw [ofInt_lt (bN_lt b i)]; rfl
theorem take2 {b : List UInt8} (h : 2 ≤ b.length) : b.take 2 = [b.getD 0 0, b.getD 1 0] := by
 match b, h with
 | x :: y :: t, _ => rfl
theorem take3 {b : List UInt8} (h : 3 ≤ b.length) : b.take 3 = [b.getD 0 0, b.getD 1 0, b.getD 2 0] := by
 match b, h with
 | x :: y :: z :: t, _ => rfl
theorem take4 {b : List UInt8} (h : 4 ≤ b.length) : b.take 4 = [b.getD 0 0, b.getD 1 0, b.getD 2 0, b.getD 3 0] := by
 match b, h with
 | x :: y :: z :: u :: t, _ => rfl
theorem hR_some {b : List UInt8} (h : (hR b).2.2 = true) : ∃ k : Nat, (hR b).2.1 = (k : Int) ∧ k ≤ 65535 ∧ mkV (b.getD 0 0) = true ∧ (hR b).1 = (((hdF (b.getD 0 0) k).length : Nat) : Int) ∧ b.take (hdF (b.getD 0 0) k).length = hdF (b.getD 0 0) k ∧ (hdF (b.getD 0 0) k).length + k ≤ b.length := by
 unfold hR at h ⊢
 by_cases h1 : b.length < 2 ∨ mkV (b.getD 0 0) = false
 ·rw [if_pos h1] at h; cases h
 ·have hm : mkV (b.getD 0 0) = true := by cases hm : mkV (b.getD 0 0) with | true => rfl | false => exact absurd (.inr hm) h1
  have h2 : 2 ≤ b.length := by by_cases h2 : b.length < 2; exact absurd (.inl h2) h1; omega
  rw [if_neg h1] at h ⊢
  by_cases h8 : bN b 1 < 128
  ·rw [if_pos h8] at h ⊢
   have hle := of_decide_eq_true (show decide (2 + bN b 1 ≤ b.length) = true from h)
   have e : hdF (b.getD 0 0) ((bN b 1 : Nat) : Int) = [b.getD 0 0, b.getD 1 0] := by unfold hdF; rw [ite_t (decide_eq_true (by omega)), ofInt_bN]
   exact ⟨bN b 1, rfl, by omega, hm, by rw [e]; rfl, by rw [e]; exact take2 h2, by rw [e]; exact hle⟩
  ·rw [if_neg h8] at h ⊢
   by_cases h9 : bN b 1 = 129
   ·rw [if_pos h9] at h ⊢
    by_cases h3 : b.length < 3 ∨ bN b 2 < 128
    ·rw [if_pos h3] at h; cases h
    ·rw [if_neg h3] at h ⊢
     have hle := of_decide_eq_true (show decide (3 + bN b 2 ≤ b.length) = true from h)
     have hx := bN_lt b 2
     have h3a : 3 ≤ b.length := by omega
     have h3b : ¬ bN b 2 < 128 := fun h => h3 (.inr h)
     have e1 : b.getD 1 0 = 129 := UInt8.toNat_inj.1 h9
     have e : hdF (b.getD 0 0) ((bN b 2 : Nat) : Int) = [b.getD 0 0, b.getD 1 0, b.getD 2 0] := by unfold hdF; rw [ite_f (decide_eq_false (by omega)), ite_t (decide_eq_true (by omega)), ofInt_bN, e1]
     exact ⟨bN b 2, rfl, by omega, hm, by rw [e]; rfl, by rw [e]; exact take3 h3a, by rw [e]; exact hle⟩
   ·rw [if_neg h9] at h ⊢
    by_cases h10 : bN b 1 = 130
    ·rw [if_pos h10] at h ⊢
     by_cases h3 : b.length < 4 ∨ bN b 2 * 256 + bN b 3 < 256
     ·rw [if_pos h3] at h; cases h
     ·rw [if_neg h3] at h ⊢
      have hle := of_decide_eq_true (show decide (4 + (bN b 2 * 256 + bN b 3) ≤ b.length) = true from h)
      have hx := bN_lt b 2
      have hy := bN_lt b 3
      have h3b : ¬ bN b 2 * 256 + bN b 3 < 256 := fun h => h3 (.inr h)
      have e1 : b.getD 1 0 = 130 := UInt8.toNat_inj.1 h10
      have e2 : UInt8.ofInt (((bN b 2 * 256 + bN b 3 : Nat) : Int) / 256) = b.getD 2 0 := by
       rw [show ((bN b 2 * 256 + bN b 3 : Nat) : Int) / 256 = ((bN b 2 : Nat) : Int) by omega]; exact ofInt_bN b 2
      have e3 : UInt8.ofInt ((bN b 2 * 256 + bN b 3 : Nat) : Int) = b.getD 3 0 := by
       rw [← ofInt_mod, show ((bN b 2 * 256 + bN b 3 : Nat) : Int) % 256 = ((bN b 3 : Nat) : Int) by omega]; exact ofInt_bN b 3
      have e : hdF (b.getD 0 0) ((bN b 2 * 256 + bN b 3 : Nat) : Int) = [b.getD 0 0, b.getD 1 0, b.getD 2 0, b.getD 3 0] := by unfold hdF; rw [ite_f (decide_eq_false (by omega)), ite_f (decide_eq_false (by omega)), e2, e3, e1]
      exact ⟨bN b 2 * 256 + bN b 3, rfl, by omega, hm, by rw [e]; rfl, by rw [e]; exact take4 (by omega), by rw [e]; exact hle⟩
    ·rw [if_neg h10] at h; cases h
theorem elO_some {L : List UInt8} {m : UInt8} {body rest : List UInt8} (h : elO L = some (m, body, rest)) : L = elF m body ++ rest ∧ mkV m = true ∧ body.length ≤ 65535 ∧ (hR L).2.2 = true ∧ (hR L).1 = (((hdF m (body.length : Int)).length : Nat) : Int) ∧ (hR L).2.1 = (body.length : Int) ∧ L.getD 0 0 = m := by
 unfold elO at h
 split at h
 ·rename_i hr
  obtain ⟨k, h1, h2, h3, h4, h5, h6⟩ := hR_some hr
  rw [h1, h4] at h
  simp only [Int.toNat_natCast, Option.some.injEq, Prod.mk.injEq] at h
  obtain ⟨rfl, rfl, rfl⟩ := h
  have hl : ((L.drop (hdF (L.getD 0 0) k).length).take k).length = k := by rw [List.length_take, List.length_drop]; omega
  refine ⟨?_, h3, by rw [hl]; exact h2, hr, by rw [hl]; exact h4, by rw [hl]; exact h1, rfl⟩
  unfold elF
  rw [hl]
  have e0 := List.take_append_drop (hdF (L.getD 0 0) (k : Int)).length L
  rw [h5] at e0
  rw [List.append_assoc]
  refine e0.symm.trans (congrArg _ ?_)
  have e := List.take_append_drop k (L.drop (hdF (L.getD 0 0) (k : Int)).length)
  rw [List.drop_drop] at e
  exact e.symm
 ·cases h
theorem elF_two (m : UInt8) (b : List UInt8) : 2 ≤ (elF m b).length := by
 unfold elF hdF
 cases decide ((b.length : Int) < 128) with
 | true => simp
 | false => cases decide ((b.length : Int) < 256) <;> simp
structure At0 (b : List UInt8) (at_ e : Nat) (L : List UInt8) : Prop where
 rest : ∃ T, b.drop at_ = L ++ T
 fin : e = at_ + L.length
 le : e ≤ b.length
theorem At0.left {b : List UInt8} {at_ e : Nat} {L : List UInt8} (h : At0 b at_ e L) : (b.drop at_).take (e - at_) = L := by
 obtain ⟨T, hT⟩ := h.rest
 rw [hT, h.fin, Nat.add_sub_cancel_left, List.take_left]
theorem At0.step {b : List UInt8} {at_ e : Nat} {X Y : List UInt8} (h : At0 b at_ e (X ++ Y)) : At0 b (at_ + X.length) e Y := by
 obtain ⟨T, hT⟩ := h.rest
 refine ⟨⟨T, ?_⟩, by have := h.fin; rw [List.length_append] at this; omega, h.le⟩
 rw [← List.drop_drop, hT, List.append_assoc, List.drop_left]
theorem At0.into {b : List UInt8} {at_ e : Nat} {X Y : List UInt8} (h : At0 b at_ e (X ++ Y)) : At0 b at_ (at_ + X.length) X := by
 obtain ⟨T, hT⟩ := h.rest
 exact ⟨⟨Y ++ T, by rw [hT, List.append_assoc]⟩, rfl, by have := h.fin; have := h.le; rw [List.length_append] at *; omega⟩
theorem ends_last (es : List Int) (e : Nat) : (es ++ [(e : Int)]).getD (((((es ++ [(e : Int)]).length : Nat) : Int) - 1).toNat) 0 = (e : Int) := by
 have : ((((es ++ [(e : Int)]).length : Nat) : Int) - 1).toNat = es.length := by simp
 rw [this, List.getD_eq_getElem?_getD, List.getElem?_append_right (Nat.le_refl _), Nat.sub_self]; rfl
theorem tleft_at (n : Nat) {b : List UInt8} {at_ e : Nat} {L : List UInt8} (h : At0 b at_ e L) (es : List Int) (hes : es.length ≤ 1000) (hb : b.length ≤ 1000000) : tleft n b (at_ : Int) (es ++ [(e : Int)]) = some (at_, e - at_) := by
 have h1 := h.fin; have h2 := h.le
 unfold tleft
 rw [ends_last]
 have hl : (es ++ [(e : Int)]).length = es.length + 1 := by simp
 rw [gd_pos (okI64 (by omega) (by omega)), gd_pos (by omega), gd_pos (by omega), gd_pos (by omega), gd_pos (by omega), gd_pos (by omega)]
 rfl
theorem At0.nil {b : List UInt8} {at_ e : Nat} {L : List UInt8} (h : At0 b at_ e L) : (((e - at_ : Nat) : Int) == 0) = L.isEmpty := by
 have := h.fin
 cases L with
 | nil => simp at this; subst this; simp
 | cons x t => simp at this; simp; omega
theorem At0.hd {b : List UInt8} {at_ e : Nat} {L : List UInt8} (h : At0 b at_ e L) (hn : L ≠ []) : b.getD (oddA at_ 0) 0 = L.getD 0 0 := by
 obtain ⟨T, hT⟩ := h.rest
 have e0 : oddA at_ 0 = at_ := by cases at_ <;> rfl
 rw [e0]
 have : b.getD at_ 0 = (b.drop at_).getD 0 0 := by rw [getD_drop]; rfl
 rw [this, hT]
 cases L with
 | nil => exact absurd rfl hn
 | cons x t => rfl
theorem tNext_at (n : Nat) {b : List UInt8} {at_ e : Nat} {L : List UInt8} (h : At0 b at_ e L) (es : List Int) (hes : es.length ≤ 1000) (hb : b.length ≤ 1000000) : tNext n b (at_ : Int) (es ++ [(e : Int)]) = some (if L = [] then (0, false) else (L.getD 0 0, true)) := by
 unfold tNext
 rw [tleft_at n h es hes hb, Option.bind_some]
 simp only []
 rw [h.nil]
 cases L with
 | nil => rfl
 | cons x t =>
  have h1 := h.fin
  simp only [List.length_cons] at h1
  rw [show (x :: t).isEmpty = false from rfl, cond_false, gd_pos (by omega), gd_pos (by omega), h.hd (List.cons_ne_nil _ _), if_neg (List.cons_ne_nil _ _)]
theorem elO_nil : elO [] = none := rfl
theorem tTake_at {n : Nat} (hn : 3 ≤ n) {b : List UInt8} {at_ e : Nat} {L : List UInt8} (h : At0 b at_ e L) (es : List Int) (hes : es.length ≤ 1000) (hb : b.length ≤ 1000000) (m : UInt8) :
  (∃ body rest, elO L = some (m, body, rest) ∧ whV m = false ∧ tTake n b (at_ : Int) (es ++ [(e : Int)]) m = some (((at_ + (elF m body).length : Nat) : Int), body, none)) ∨ ((∃ c, tTake n b (at_ : Int) (es ++ [(e : Int)]) m = some ((at_ : Int), [], some c)) ∧ ∀ body rest, elO L = some (m, body, rest) → whV m = true) := by
 unfold tTake
 rw [tleft_at n h es hes hb, Option.bind_some]
 simp only []
 rw [h.nil, h.left]
 by_cases hL : L = []
 ·subst hL; exact .inr ⟨⟨_, rfl⟩, fun body rest h => by rw [elO_nil] at h; cases h⟩
 ·have hlen : 0 < L.length := List.length_pos_iff.2 hL
  have h1 := h.fin; have h2 := h.le
  rw [show L.isEmpty = false by cases L with | nil => exact absurd rfl hL | cons _ _ => rfl, cond_false, gd_pos (by omega), gd_pos (by omega), h.hd hL]
  by_cases hm : L.getD 0 0 = m
  ·rw [ite_f (by rw [hm]; simp), thead_cf hn (by omega), Option.bind_some]
   cases hr : (hR L).2.2 with
   | false => exact .inr ⟨⟨_, rfl⟩, fun body rest h => by unfold elO at h; rw [hr] at h; cases h⟩
   | true =>
    rw [show (!true) = false from rfl, cond_false, tisW_is, Option.bind_some]
    have he : ∃ body rest, elO L = some (m, body, rest) := ⟨_, _, by unfold elO; rw [if_pos hr, hm]⟩
    obtain ⟨body, rest, he⟩ := he
    obtain ⟨k1, k2, k3, k4, k5, k6, k7⟩ := elO_some he
    cases hw : whV m with
    | true => exact .inr ⟨⟨_, rfl⟩, fun _ _ _ => rfl⟩
    | false =>
     rw [cond_false, k5, k6]
     have hhd := hdF_len m (body.length : Int)
     have hel : (elF m body).length = (hdF m (body.length : Int)).length + body.length := by unfold elF; rw [List.length_append]
     have hLl : L.length = (elF m body).length + rest.length := (congrArg List.length k1).trans List.length_append
     rw [gd_pos (okI64 (by omega) (by omega)), gd_pos (okI64 (by omega) (by omega)), gd_pos (okI64 (by omega) (by omega)), gd_pos (by omega), gd_pos (by omega), gd_pos (by omega)]
     have ea : oddA at_ ((((hdF m (body.length : Int)).length : Nat) : Int).toNat) = at_ + (hdF m (body.length : Int)).length := by rw [oddA_eq, Int.toNat_natCast]
     have eb : ((b.drop (at_ + (hdF m (body.length : Int)).length)).take (((((((hdF m (body.length : Int)).length : Nat) : Int) + (body.length : Int)).toNat) - ((((hdF m (body.length : Int)).length : Nat) : Int).toNat)))) = body := by
      obtain ⟨T, hT⟩ := h.rest
      rw [← List.drop_drop, hT, k1]
      unfold elF
      rw [List.append_assoc, List.append_assoc, List.drop_left, show (((((hdF m (body.length : Int)).length : Nat) : Int) + (body.length : Int)).toNat) - ((((hdF m (body.length : Int)).length : Nat) : Int).toNat) = body.length by omega, List.take_left]
     rw [ea, eb, gd_pos (by omega)]
     exact .inl ⟨body, rest, he, rfl, by rw [hel, Int.natCast_add, Int.natCast_add]⟩
  ·rw [ite_t (by simpa using hm)]
   exact .inr ⟨⟨_, rfl⟩, fun body rest h => absurd (elO_some h).2.2.2.2.2.2 hm⟩
theorem tEnter_at {n : Nat} (hn : 3 ≤ n) {b : List UInt8} {at_ e : Nat} {L : List UInt8} (h : At0 b at_ e L) (es : List Int) (hes : es.length ≤ 20) (hb : b.length ≤ 1000000) (m : UInt8) :
  (∃ body rest, elO L = some (m, body, rest) ∧ whV m = true ∧ tEnter n b (at_ : Int) (es ++ [(e : Int)]) m = some (((at_ + (hdF m (body.length : Int)).length : Nat) : Int), (es ++ [(e : Int)]) ++ [((at_ + (elF m body).length : Nat) : Int)], none)) ∨ ((∃ c, tEnter n b (at_ : Int) (es ++ [(e : Int)]) m = some ((at_ : Int), es ++ [(e : Int)], some c)) ∧ ∀ body rest, elO L = some (m, body, rest) → whV m = false) := by
 unfold tEnter
 rw [tleft_at n h es (by omega) hb, Option.bind_some]
 simp only []
 rw [h.nil, h.left]
 by_cases hL : L = []
 ·subst hL; exact .inr ⟨⟨_, rfl⟩, fun body rest h => by rw [elO_nil] at h; cases h⟩
 ·have hlen : 0 < L.length := List.length_pos_iff.2 hL
  have h1 := h.fin; have h2 := h.le
  rw [show L.isEmpty = false by cases L with | nil => exact absurd rfl hL | cons _ _ => rfl, cond_false, gd_pos (by omega), gd_pos (by omega), h.hd hL]
  by_cases hm : L.getD 0 0 = m
  ·rw [ite_f (by rw [hm]; simp), thead_cf hn (by omega), Option.bind_some]
   cases hr : (hR L).2.2 with
   | false => exact .inr ⟨⟨_, rfl⟩, fun body rest h => by unfold elO at h; rw [hr] at h; cases h⟩
   | true =>
    rw [show (!true) = false from rfl, cond_false, tisW_is, Option.bind_some]
    have he : ∃ body rest, elO L = some (m, body, rest) := ⟨_, _, by unfold elO; rw [if_pos hr, hm]⟩
    obtain ⟨body, rest, he⟩ := he
    obtain ⟨k1, k2, k3, k4, k5, k6, k7⟩ := elO_some he
    cases hw : whV m with
    | false => exact .inr ⟨⟨_, rfl⟩, fun _ _ _ => rfl⟩
    | true =>
     rw [show (!true) = false from rfl, cond_false, k5, k6]
     have hhd := hdF_len m (body.length : Int)
     have hel : (elF m body).length = (hdF m (body.length : Int)).length + body.length := by unfold elF; rw [List.length_append]
     have hl : (es ++ [(e : Int)]).length = es.length + 1 := by simp
     rw [ite_f (decide_eq_false (by omega)), gd_pos (okI64 (by omega) (by omega)), gd_pos (okI64 (by omega) (by omega)), gd_pos (by unfold rmB; omega)]
     exact .inl ⟨body, rest, he, rfl, by rw [hel, Int.natCast_add, Int.natCast_add, Int.natCast_add, Int.add_assoc]⟩
  ·rw [ite_t (by simpa using hm)]
   exact .inr ⟨⟨_, rfl⟩, fun body rest h => absurd (elO_some h).2.2.2.2.2.2 hm⟩
theorem tLeave_at (n : Nat) {b : List UInt8} {at_ e : Nat} {L : List UInt8} (h : At0 b at_ e L) (es : List Int) (he : es ≠ []) (hes : es.length ≤ 1000) (hb : b.length ≤ 1000000) : tLeave n b (at_ : Int) (es ++ [(e : Int)]) = some (if L = [] then (es, none) else (es ++ [(e : Int)], some 3)) := by
 have hpos := List.length_pos_iff.2 he
 have hl : (es ++ [(e : Int)]).length = es.length + 1 := by simp
 have h1 := h.fin
 unfold tLeave
 rw [ite_f (by rw [hl]; simp; omega), tleft_at n h es hes hb, Option.bind_some]
 simp only []
 cases L with
 | nil =>
  simp only [List.length_nil] at h1
  rw [ite_f (decide_eq_false (by omega)), gd_pos (okI64 (by omega) (by omega)), gd_pos (by omega), gd_pos (by omega), if_pos rfl, show ((((es ++ [(e : Int)]).length : Nat) : Int) - 1).toNat = es.length by rw [hl]; omega, List.take_left]
 | cons x t =>
  simp only [List.length_cons] at h1
  rw [ite_t (decide_eq_true (by omega)), if_neg (List.cons_ne_nil _ _)]
theorem tEnd_at (n : Nat) {b : List UInt8} {at_ e : Nat} {L : List UInt8} (h : At0 b at_ e L) (hb : b.length ≤ 1000000) : tEnd n b (at_ : Int) [(e : Int)] = some (if L = [] then none else some 3) := by
 have h1 := h.fin
 unfold tEnd
 rw [ite_f (by simp), show [(e : Int)] = [] ++ [(e : Int)] from rfl, tleft_at n h [] (by simp) hb, Option.bind_some]
 simp only []
 cases L with
 | nil => simp only [List.length_nil] at h1; rw [ite_f (decide_eq_false (by omega)), if_pos rfl]
 | cons x t => simp only [List.length_cons] at h1; rw [ite_t (decide_eq_true (by omega)), if_neg (List.cons_ne_nil _ _)]
end Go.Sx
end
section
namespace Go.Sx
open Go Go.RowKit Go.Ch Go.Proofs.Ytobfglafchoipaa
attribute [local irreducible] pAll elO hR hdF pRd
def onO (L : List UInt8) : Option (AttrT × List UInt8) :=
 match elO L with
 | some (m, body, rest) => if m = 48 then (match elO body with
  | some (o6, o, r1) => if o6 = 6 ∧ (pAll o).2 = none then (match elO r1 with
   | some (mk, t, r2) => if whV mk = false ∧ r2 = [] then some (((pAll o).1, mk, t), rest) else none
   | none => none) else none
  | none => none) else none
 | none => none
theorem pAll_err (o : List UInt8) : (pAll o).2 = none ∨ ∃ c, (pAll o).2 = some c := by
 cases h : (pAll o).2 with
 | none => exact .inl rfl
 | some c => exact .inr ⟨c, rfl⟩
theorem onO_rest {L rest : List UInt8} {a : AttrT} (h : onO L = some (a, rest)) : ∃ body, elO L = some (48, body, rest) := by
 unfold onO at h
 split at h
 ·rename_i m body r he
  split at h
  ·rename_i hm; subst hm
   split at h
   ·split at h
    ·split at h
     ·split at h
      ·injection h with h; injection h with _ h; subst h; exact ⟨body, he⟩
      ·cases h
     ·cases h
    ·cases h
   ·cases h
  ·cases h
 ·cases h
theorem At0.to {b : List UInt8} {at_ e : Nat} {L L' : List UInt8} (h : At0 b at_ e L) (k : L = L') : At0 b at_ e L' := by subst k; exact h
theorem nOne_at {n : Nat} (hn : 8000 < n + 3901) {b : List UInt8} (hb : b.length < n) (hb2 : b.length ≤ 100000) {at_ e : Nat} {L : List UInt8} (h : At0 b at_ e L) (es : List Int) (hes : es.length ≤ 10) :
  (∃ a rest, onO L = some (a, rest) ∧ ∃ at2 : Nat, At0 b at2 e rest ∧ nOne n b (at_ : Int) (es ++ [(e : Int)]) = some ((at2 : Int), es ++ [(e : Int)], a.1, a.2.1, a.2.2, none)) ∨ (onO L = none ∧ ∃ r c, nOne n b (at_ : Int) (es ++ [(e : Int)]) = some r ∧ r.2.2.2.2.2 = some c) := by
 have hn3 : 3 ≤ n := by omega
 have hle := h.le
 unfold nOne
 rcases tEnter_at hn3 h es (by omega) (by omega) 48 with ⟨body, rest, he, _, hr⟩ | ⟨⟨c, hr⟩, hno⟩
 ·rw [hr, Option.bind_some]
  simp only [Option.isNone_none, Bool.not_true, cond_false]
  obtain ⟨k1, _, _, _, _, _, _⟩ := elO_some he
  rw [k1] at h
  have hel : elF 48 body = hdF 48 (body.length : Int) ++ body := rfl
  have h1 : At0 b (at_ + (hdF 48 (body.length : Int)).length) (at_ + (elF 48 body).length) body := by
   have := h.into; rw [hel] at this ⊢; exact this.step
  have hafter : At0 b (at_ + (elF 48 body).length) e rest := h.step
  rcases tTake_at hn3 h1 (es ++ [(e : Int)]) (by simp; omega) (by omega) 6 with ⟨o, r1, he1, _, hr1⟩ | ⟨⟨c, hr1⟩, hno1⟩
  ·rw [hr1, Option.bind_some]
   simp only [Option.isNone_none, Bool.not_true, cond_false]
   obtain ⟨k2, _, _, _, _, _, _⟩ := elO_some he1
   have h2 := (h1.to k2).step
   have h1k := h1.to k2
   have hol : o.length ≤ b.length := by
    have e1 := h1k.fin; have e2 := h1k.le
    have : o.length ≤ (elF 6 o).length := by unfold elF; rw [List.length_append]; omega
    rw [List.length_append] at e1; omega
   rw [pReadOid_is (by omega) (by omega), Option.bind_some]
   rcases pAll_err o with ho | ⟨c, ho⟩
   ·rw [ho]
    simp only [Option.isNone_none, Bool.not_true, cond_false]
    rw [tNext_at n h2 _ (by simp; omega) (by omega), Option.bind_some]
    by_cases hr0 : r1 = []
    ·subst hr0
     refine .inr ⟨?_, ?_⟩
     ·unfold onO; rw [he]; simp only [if_true]; rw [he1]; simp only [ho, and_self, if_true]; rw [elO_nil]
     ·rw [if_pos rfl]
      rcases tTake_at hn3 h2 (es ++ [(e : Int)]) (by simp; omega) (by omega) 0 with ⟨_, _, he2, _⟩ | ⟨⟨c, hr2⟩, _⟩
      ·rw [elO_nil] at he2; cases he2
      ·simp only []
       rw [hr2, Option.bind_some]
       exact ⟨_, c, rfl, rfl⟩
    ·rw [if_neg hr0]
     simp only []
     rcases tTake_at hn3 h2 (es ++ [(e : Int)]) (by simp; omega) (by omega) (r1.getD 0 0) with ⟨t, r2, he2, hw2, hr2⟩ | ⟨⟨c, hr2⟩, hno2⟩
     ·rw [hr2, Option.bind_some]
      simp only [Option.isNone_none, Bool.not_true, cond_false]
      obtain ⟨k3, _, _, _, _, _, _⟩ := elO_some he2
      have h3 : At0 b (at_ + (hdF 48 (body.length : Int)).length + (elF 6 o).length + (elF (r1.getD 0 0) t).length) (at_ + (elF 48 body).length) r2 := by
       have h2' := h2
       rw [k3] at h2'
       exact h2'.step
      rw [tLeave_at n h3 (es ++ [(e : Int)]) (by simp) (by simp; omega) (by omega), Option.bind_some]
      by_cases hr3 : r2 = []
      ·rw [if_pos hr3]
       refine .inl ⟨((pAll o).1, r1.getD 0 0, t), rest, ?_, _, ?_, rfl⟩
       ·unfold onO; rw [he]; simp only [if_true]; rw [he1]; simp only [ho, and_self, if_true]; rw [he2]; simp only [hw2, hr3, and_self, if_true]
       ·have e1 := h3.fin
        rw [hr3, List.length_nil, Nat.add_zero] at e1
        rw [← e1]; exact hafter
      ·rw [if_neg hr3]
       refine .inr ⟨?_, _, 3, rfl, rfl⟩
       unfold onO; rw [he]; simp only [if_true]; rw [he1]; simp only [ho, and_self, if_true]; rw [he2]; simp only [hr3, and_false, if_false]
     ·rw [hr2, Option.bind_some]
      refine .inr ⟨?_, _, c, rfl, rfl⟩
      unfold onO; rw [he]; simp only [if_true]; rw [he1]; simp only [ho, and_self, if_true]
      cases he3 : elO r1 with
      | none => rfl
      | some q =>
       obtain ⟨mk, t, r2⟩ := q
       have hmk := (elO_some he3).2.2.2.2.2.2
       subst hmk
       simp only []
       rw [if_neg]
       rintro ⟨hw, _⟩
       rw [hno2 t r2 he3] at hw; cases hw
   ·rw [ho]
    refine .inr ⟨?_, _, c, rfl, rfl⟩
    unfold onO; rw [he]; simp only [if_true]; rw [he1]; simp only [ho, reduceCtorEq, and_false, if_false]
  ·rw [hr1, Option.bind_some]
   refine .inr ⟨?_, _, c, rfl, rfl⟩
   unfold onO; rw [he]; simp only [if_true]
   cases he1 : elO body with
   | none => rfl
   | some q =>
    obtain ⟨o6, o, r1⟩ := q
    simp only []
    rw [if_neg]
    rintro ⟨rfl, _⟩
    have := hno1 o r1 he1
    exact absurd this (by decide)
 ·rw [hr, Option.bind_some]
  refine .inr ⟨?_, _, c, rfl, rfl⟩
  unfold onO
  cases he : elO L with
  | none => rfl
  | some q =>
   obtain ⟨m, body, rest⟩ := q
   simp only []
   rw [if_neg]
   rintro rfl
   have := hno body rest he
   exact absurd this (by decide)
@[irreducible] def F4 : Nat := 4000
theorem F4_eq : F4 = 4000 := by unfold F4; rfl
def atsO : Nat → List UInt8 → Option (List AttrT)
 | 0, L => if L = [] then some [] else none
 | f + 1, L => if L = [] then some [] else match onO L with | some (a, rest) => (atsO f rest).map (a :: ·) | none => none
def stsO : Nat → List UInt8 → Option nmT
 | 0, L => if L = [] then some [] else none
 | f + 1, L => if L = [] then some [] else match elO L with
  | some (m, body, rest) => if m = 49 then (match atsO F4 body with | some s => (stsO f rest).map (s :: ·) | none => none) else none
  | none => none
def nmO (b : List UInt8) : Option nmT := match elO b with
 | some (m, body, rest) => if m = 48 ∧ rest = [] then stsO F4 body else none
 | none => none
abbrev StR := Int × List Int × nmT × Option Int
theorem steps_l2 {n : Nat} (hn : 8000 < n + 3901) {b : List UInt8} (hb : b.length < n) (hb2 : b.length ≤ 8000) (K : Int → List Int → nmT → Option StR) (d5 : nmT) (hd : d5.length ≤ 8000) {e1 e : Nat} (es : List Int) (hes : es.length ≤ 5)
  (rest : List UInt8) (hrest : At0 b e1 e rest) :
  ∀ (fu : Nat) (f : Nat) (L : List UInt8) (at_ : Nat) (acc : List AttrT), L.length < 2 * fu → L.length ≤ 2 * f → acc.length + L.length ≤ 20000 → At0 b at_ e1 L →
   (∃ s, atsO f L = some s ∧ nSteps_l2 n b d5 K fu (at_ : Int) ((es ++ [(e : Int)]) ++ [(e1 : Int)]) acc = K (e1 : Int) (es ++ [(e : Int)]) (d5 ++ [acc ++ s])) ∨
   (atsO f L = none ∧ ∃ r c, nSteps_l2 n b d5 K fu (at_ : Int) ((es ++ [(e : Int)]) ++ [(e1 : Int)]) acc = some r ∧ r.2.2.2 = some c)
 | 0, f, L, at_, acc, h1, h2, h3, h => by omega
 | fu + 1, f, L, at_, acc, h1, h2, h3, h => by
  rw [nSteps_l2, tNext_at n h _ (by simp; omega) (by omega), Option.bind_some]
  by_cases hL : L = []
  ·have hat : at_ = e1 := by have := h.fin; rw [hL] at this; simpa using this.symm
   rw [if_pos hL]
   refine .inl ⟨[], by cases f <;> simp [atsO, hL], ?_⟩
   rw [show (!(((0 : UInt8), false)).2) = true from rfl, cond_true]
   unfold nSteps_j2
   rw [tLeave_at n h _ (by simp) (by simp; omega) (by omega), Option.bind_some, if_pos hL, ite_f (by rfl), gd_pos (by unfold rmB; omega), List.append_nil, hat]
  ·rw [if_neg hL, show (!((L.getD 0 0, true)).2) = false from rfl, cond_false]
   obtain ⟨f, rfl⟩ : ∃ f', f = f' + 1 := ⟨f - 1, by have := List.length_pos_iff.2 hL; omega⟩
   rcases nOne_at hn hb (by omega) h (es ++ [(e : Int)]) (by simp; omega) with ⟨a, rs, ho, at2, h4, hr⟩ | ⟨ho, r, c, hr, hc⟩
   ·have hlt : rs.length + 2 ≤ L.length := by
     obtain ⟨bd, he⟩ := onO_rest ho
     have k1 := (elO_some he).1
     have k2 := elF_two 48 bd
     have := congrArg List.length k1
     rw [List.length_append] at this; omega
    rw [hr, Option.bind_some, ite_f (by rfl), gd_pos (by unfold rmB; omega)]
    rcases steps_l2 hn hb hb2 K d5 hd es hes rest hrest fu f rs at2 (acc ++ [(a.1, (a.2.1, a.2.2))]) (by omega) (by omega) (by simp; omega) h4 with ⟨s, hs, hk⟩ | ⟨hs, hk⟩
    ·refine .inl ⟨a :: s, ?_, ?_⟩
     ·rw [atsO, if_neg hL, ho]; simp only []; rw [hs]; rfl
     ·rw [hk, List.append_assoc]; rfl
    ·refine .inr ⟨?_, hk⟩
     rw [atsO, if_neg hL, ho]; simp only []; rw [hs]; rfl
   ·rw [hr, Option.bind_some, hc, ite_t (by rfl)]
    exact .inr ⟨by rw [atsO, if_neg hL, ho], _, c, rfl, rfl⟩
theorem steps_l1 {n : Nat} (hn : 8000 < n + 3901) {b : List UInt8} (hb : b.length < n) (hb2 : b.length ≤ 8000) {e1 e : Nat} (hfin : ∃ rest0, At0 b e1 e rest0) {rest0 : List UInt8} (hrest : At0 b e1 e rest0) :
  ∀ (fu : Nat) (f : Nat) (L : List UInt8) (at_ : Nat) (acc : nmT), L.length < 2 * fu → L.length ≤ 2 * f → acc.length + L.length ≤ 8000 → At0 b at_ e1 L →
   (∃ s, stsO f L = some s ∧ rest0 = [] ∧ ∃ x y, nSteps_l1 n b fu (at_ : Int) ([(e : Int)] ++ [(e1 : Int)]) acc = some (x, y, acc ++ s, none)) ∨
   ((stsO f L = none ∨ rest0 ≠ []) ∧ ∃ r c, nSteps_l1 n b fu (at_ : Int) ([(e : Int)] ++ [(e1 : Int)]) acc = some r ∧ r.2.2.2 = some c)
 | 0, f, L, at_, acc, h1, h2, h3, h => by omega
 | fu + 1, f, L, at_, acc, h1, h2, h3, h => by
  rw [nSteps_l1, tNext_at n h _ (by simp) (by omega), Option.bind_some]
  by_cases hL : L = []
  ·have hat : at_ = e1 := by have := h.fin; rw [hL] at this; simpa using this.symm
   rw [if_pos hL, show (!(((0 : UInt8), false)).2) = true from rfl, cond_true]
   unfold nSteps_j1
   rw [tLeave_at n h _ (by simp) (by simp) (by omega), Option.bind_some, if_pos hL, ite_f (by rfl)]
   simp only []
   rw [hat, tEnd_at n hrest (by omega), Option.bind_some]
   by_cases hr : rest0 = []
   ·rw [if_pos hr]
    exact .inl ⟨[], by cases f <;> simp [stsO, hL], hr, _, _, by rw [List.append_nil]⟩
   ·rw [if_neg hr]
    exact .inr ⟨.inr hr, _, 3, rfl, rfl⟩
  ·rw [if_neg hL, show (!((L.getD 0 0, true)).2) = false from rfl, cond_false]
   obtain ⟨f, rfl⟩ : ∃ f', f = f' + 1 := ⟨f - 1, by have := List.length_pos_iff.2 hL; omega⟩
   rcases tEnter_at (n := n) (by omega) h [(e : Int)] (by simp) (by omega) 49 with ⟨body, rs, he, _, hr⟩ | ⟨⟨c, hr⟩, hno⟩
   ·rw [hr, Option.bind_some, ite_f (by rfl)]
    simp only []
    obtain ⟨k1, _, _, _, _, _, _⟩ := elO_some he
    have k2 := elF_two 49 body
    have hlen : L.length = (elF 49 body).length + rs.length := (congrArg List.length k1).trans List.length_append
    have hbl : body.length ≤ L.length := by
     have : body.length ≤ (elF 49 body).length := by unfold elF; rw [List.length_append]; omega
     omega
    rw [k1] at h
    have hel : elF 49 body = hdF 49 (body.length : Int) ++ body := rfl
    have h4 : At0 b (at_ + (hdF 49 (body.length : Int)).length) (at_ + (elF 49 body).length) body := by
     have := h.into; rw [hel] at this ⊢; exact this.step
    have h5 : At0 b (at_ + (elF 49 body).length) e1 rs := h.step
    rcases steps_l2 hn hb hb2 (nSteps_l1 n b fu) acc (by omega) [(e : Int)] (by simp) rs h5 n F4 body _ [] (by omega) (by rw [F4_eq]; omega) (by simp; omega) h4 with ⟨s, hs, hk⟩ | ⟨hs, hk⟩
    ·rw [hk, List.nil_append]
     rcases steps_l1 hn hb hb2 hfin hrest fu f rs (at_ + (elF 49 body).length) (acc ++ [s]) (by omega) (by omega) (by simp; omega) h5 with ⟨s2, hs2, hr2, x, y, hk2⟩ | ⟨hs2, hk2⟩
     ·refine .inl ⟨s :: s2, ?_, hr2, x, y, ?_⟩
      ·rw [stsO, if_neg hL, he]; simp only [if_true]; rw [hs]; simp only []; rw [hs2]; rfl
      ·rw [hk2, List.append_assoc]; rfl
     ·refine .inr ⟨?_, hk2⟩
      rcases hs2 with hs2 | hs2
      ·left; rw [stsO, if_neg hL, he]; simp only [if_true]; rw [hs]; simp only []; rw [hs2]; rfl
      ·exact .inr hs2
    ·refine .inr ⟨.inl ?_, hk⟩
     rw [stsO, if_neg hL, he]; simp only [if_true]; rw [hs]
   ·rw [hr, Option.bind_some, ite_t (by rfl)]
    refine .inr ⟨.inl ?_, _, c, rfl, rfl⟩
    rw [stsO, if_neg hL]
    cases he : elO L with
    | none => rfl
    | some q =>
     obtain ⟨m, body, rest⟩ := q
     simp only []
     rw [if_neg]
     rintro rfl
     have := hno body rest he
     exact absurd this (by decide)
theorem At0.all (b : List UInt8) : At0 b 0 b.length b := ⟨⟨[], by simp⟩, by simp, Nat.le_refl _⟩
theorem nSteps_is {n : Nat} (hn : 8000 < n + 3901) {b : List UInt8} (hb : b.length < n) (hb2 : b.length ≤ 8000) :
  (∃ s x y, nmO b = some s ∧ nSteps n b 0 [(b.length : Int)] = some (x, y, s, none)) ∨ (nmO b = none ∧ ∃ r c, nSteps n b 0 [(b.length : Int)] = some r ∧ r.2.2.2 = some c) := by
 have h := At0.all b
 unfold nSteps
 rcases tEnter_at (n := n) (by omega) h [] (by simp) (by omega) 48 with ⟨body, rs, he, _, hr⟩ | ⟨⟨c, hr⟩, hno⟩
 ·rw [show ((0 : Nat) : Int) = 0 from rfl, List.nil_append] at hr
  rw [hr, Option.bind_some, ite_f (by rfl)]
  simp only []
  obtain ⟨k1, _, _, _, _, _, _⟩ := elO_some he
  have hlen : b.length = (elF 48 body).length + rs.length := (congrArg List.length k1).trans List.length_append
  have hbl : body.length ≤ b.length := by
   have : body.length ≤ (elF 48 body).length := by unfold elF; rw [List.length_append]; omega
   omega
  have h' : At0 b 0 b.length (elF 48 body ++ rs) := by rw [← k1]; exact h
  have hel : elF 48 body = hdF 48 (body.length : Int) ++ body := rfl
  have h4 : At0 b (0 + (hdF 48 (body.length : Int)).length) (0 + (elF 48 body).length) body := by
   have := h'.into; rw [hel] at this ⊢; exact this.step
  have h5 : At0 b (0 + (elF 48 body).length) b.length rs := h'.step
  rcases steps_l1 hn hb hb2 ⟨rs, h5⟩ h5 n F4 body _ [] (by omega) (by rw [F4_eq]; omega) (by simp; omega) h4 with ⟨s, hs, hr2, x, y, hk⟩ | ⟨hs, hk⟩
  ·exact .inl ⟨s, x, y, by unfold nmO; rw [he]; simp only [hr2, and_self, if_true]; exact hs, by rw [hk]; rfl⟩
  ·refine .inr ⟨?_, hk⟩
   unfold nmO; rw [he]
   rcases hs with hs | hs
   ·simp only [true_and]; rw [hs]; split <;> rfl
   ·simp only [hs, and_false, if_false]
 ·rw [show ((0 : Nat) : Int) = 0 from rfl, List.nil_append] at hr
  rw [hr, Option.bind_some, ite_t (by rfl)]
  refine .inr ⟨?_, _, c, rfl, rfl⟩
  unfold nmO
  cases he : elO b with
  | none => rfl
  | some q =>
   obtain ⟨m, body, rest⟩ := q
   simp only []
   rw [if_neg]
   rintro ⟨rfl, _⟩
   have := hno body rest he
   exact absurd this (by decide)
end Go.Sx
end
section
namespace Go.Sx
open Go Go.RowKit Go.Ch Go.Proofs.Ytobfglafchoipaa
attribute [local irreducible] pAll elO hR hdF pRd
theorem nmA_len {a : nmT} {y : List UInt8} (h : nmA a = some y) : a.length ≤ 8 ∧ y.length ≤ 6440 := by
 unfold nmA at h
 split at h
 ·rename_i h8
  obtain ⟨z, hz, rfl⟩ := Option.map_eq_some_iff.1 h
  have h1 := nm_len a z hz
  have h2 := elF_len 48 z
  exact ⟨h8, by omega⟩
 ·cases h
def rdF (b : List UInt8) : nmT × Option Int := match nmO b with
 | some s => (match nmA s with | some _ => (s, none) | none => ([], some 2))
 | none => ([], some 2)
theorem tNewR_is (n : Nat) {b : List UInt8} (h : b.length ≤ 1000000) : tNewR n b = some (b, [(b.length : Int)]) := by unfold tNewR; rw [gd_pos (by omega)]
theorem nRead_is {n : Nat} (hn : 8000 ≤ n) {b : List UInt8} (hb : b.length ≤ 7000) : nRead n b = some (rdF b) := by
 unfold nRead rdF
 rw [tNewR_is n (by omega), Option.bind_some]
 simp only []
 rcases nSteps_is (n := n) (by omega) (b := b) (by omega) (by omega) with ⟨s, x, y, h1, h2⟩ | ⟨h1, r, c, h2, h3⟩
 ·rw [h2, Option.bind_some, h1, ite_f (by rfl)]
  unfold nCheck
  rw [nWrite_is (by omega), Option.bind_some, Option.bind_some]
  simp only []
  cases nmA s <;> rfl
 ·rw [h2, Option.bind_some, h1, h3, ite_t (by rfl)]
def smN (a : nmT) : Prop := a.length ≤ 1000 ∧ ∀ s ∈ a, s.length ≤ 1000 ∧ ∀ x ∈ s, x.1.length ≤ 1000
theorem smN_nil : smN [] := ⟨by simp, by simp⟩
theorem rSame_l2_self {n : Nat} (hn : 2000 ≤ n) {a : nmT} (h : smN a) {j : Nat} (hj : j < a.length) (K : Int → Option Bool) :
  ∀ (fu i : Nat), (a.getD j []).length < i + fu → i ≤ (a.getD j []).length → rSame_l2 n a a (j : Int) K fu (i : Int) = K ((j : Int) + 1)
 | 0, i, h1, h2 => by omega
 | fu + 1, i, h1, h2 => by
  have hs := h.2 _ (getD_in (z := []) hj)
  have hl := h.1
  rw [rSame_l2]
  simp only [Int.toNat_natCast]
  rw [gd_pos (by omega), gd_pos (by omega)]
  by_cases hi : i < (a.getD j []).length
  ·have ht := hs.2 _ (getD_in (z := ([], (0, []))) hi)
   rw [ite_t (decide_eq_true (by omega)), gd_pos (by omega), gd_pos (by omega), gd_pos (by omega), gd_pos (by omega), gd_pos (by omega), gd_pos (by omega), gd_pos (by omega), gd_pos (by omega)]
   rw [sameTy_is _ (by omega) (by omega), Option.bind_some, beq_self_eq_true, ite_f (by rfl)]
   rw [gd_pos (by omega), gd_pos (by omega), gd_pos (by omega), gd_pos (by omega), gd_pos (by omega), gd_pos (by omega), gd_pos (by omega), gd_pos (by omega), ite_f (by simp)]
   rw [gd_pos (by omega), gd_pos (by omega), gd_pos (by omega), gd_pos (by omega), gd_pos (by omega), gd_pos (by omega), gd_pos (by omega), gd_pos (by omega), ite_f (by simp), gd_pos (okI64 (by omega) (by omega))]
   exact rSame_l2_self hn h hj K fu (i + 1) (by omega) hi
  ·rw [ite_f (decide_eq_false (by omega)), gd_pos (okI64 (by omega) (by omega))]
theorem rSame_l1_self {n : Nat} (hn : 2000 ≤ n) {a : nmT} (h : smN a) :
  ∀ (fu j : Nat), a.length < j + fu → j ≤ a.length → rSame_l1 n a a fu (j : Int) = some true
 | 0, j, h1, h2 => by omega
 | fu + 1, j, h1, h2 => by
  rw [rSame_l1]
  simp only [Int.toNat_natCast]
  by_cases hj : j < a.length
  ·have hs := h.2 _ (getD_in (z := []) hj)
   rw [ite_t (decide_eq_true (by omega)), gd_pos (by omega), gd_pos (by omega), gd_pos (by omega), gd_pos (by omega), ite_f (by simp)]
   rw [show (0 : Int) = ((0 : Nat) : Int) from rfl, rSame_l2_self hn h hj _ n 0 (by omega) (by omega)]
   exact rSame_l1_self hn h fu (j + 1) (by omega) hj
  ·rw [ite_f (decide_eq_false (by omega))]
theorem rSame_self {n : Nat} (hn : 2000 ≤ n) {a : nmT} (h : smN a) : rSame n a a = some true := by
 have := h.1
 unfold rSame
 rw [ite_f (by simp), show (0 : Int) = ((0 : Nat) : Int) from rfl]
 exact rSame_l1_self hn h n 0 (by omega) (by omega)
theorem stpF_sm : ∀ (l : List AttrT) (f : Bool) (last y : List UInt8), stpF l f last = some y → ∀ x ∈ l, x.1.length ≤ 1000
 | [], _, _, _, _ => by simp
 | x :: t, f, last, y, h => by
  rw [stpF] at h
  split at h
  ·rename_i hc
   obtain ⟨z, hz, _⟩ := Option.map_eq_some_iff.1 h
   have ho : atOk x = true := by simp at hc; exact hc.1
   have := oidOk_len (atOk_parts ho).2.2.2.1
   intro w hw
   rcases List.mem_cons.1 hw with rfl | hw
   ·omega
   ·exact stpF_sm t false (atF x) z hz w hw
  ·cases h
theorem nm_sm : ∀ (a : nmT) (y : List UInt8), nm a = some y → ∀ s ∈ a, s.length ≤ 1000 ∧ ∀ x ∈ s, x.1.length ≤ 1000
 | [], _, _ => by simp
 | s :: t, y, h => by
  rw [nm] at h
  split at h
  ·rename_i hc
   split at h
   ·cases h
   ·rename_i z hz
    obtain ⟨q, hq, _⟩ := Option.map_eq_some_iff.1 h
    intro w hw
    rcases List.mem_cons.1 hw with rfl | hw
    ·exact ⟨by omega, stpF_sm _ _ _ z hz⟩
    ·exact nm_sm t q hq w hw
  ·cases h
theorem nmA_sm {a : nmT} {y : List UInt8} (h : nmA a = some y) : smN a := by
 have h8 := nmA_len h
 unfold nmA at h
 split at h
 ·obtain ⟨z, hz, _⟩ := Option.map_eq_some_iff.1 h
  exact ⟨by omega, nm_sm a z hz⟩
 ·cases h
theorem rdF_sm (b : List UInt8) : smN (rdF b).1 := by
 unfold rdF
 split
 ·split
  ·rename_i hy; exact nmA_sm hy
  ·exact smN_nil
 ·exact smN_nil
theorem lup8 : lup 8000 = some true := by decide +kernel
theorem lStays_l2_is (b : List UInt8) (hb : b.length ≤ 4000) (r33 r54 : List UInt8 × Option Int) (he : r33 = r54) : ∀ (fu i : Nat) (l : List UInt8), b.length < i + fu → i ≤ b.length →
  lStays_l2 8000 b true r33 r54 (rdF b) fu l (i : Int) = some true
 | 0, i, l, h1, h2 => by omega
 | fu + 1, i, l, h1, h2 => by
  rw [lStays_l2, List.nil_append]
  by_cases hi : i < b.length
  ·rw [ite_t (decide_eq_true (by omega)), gd_pos (by omega), gd_pos (by omega), gd_pos (by omega), gd_pos (by omega), gd_pos (okI64 (by omega) (by omega))]
   exact lStays_l2_is b hb r33 r54 he fu (i + 1) _ (by omega) hi
  ·rw [ite_f (decide_eq_false (by omega)), nRead_is (by decide) (by omega), Option.bind_some, he]
   simp only [beq_self_eq_true, cond_true]
   rw [rSame_self (by decide) (rdF_sm b), Option.bind_some]
theorem lStays_l1_is (a : nmT) (b : List UInt8) (hb : b.length ≤ 4000) (r : List UInt8 × Option Int) (hr : nWrite 8000 a = some r) (hl : r.1.length ≤ 7000) : ∀ (fu i : Nat) (l : List UInt8), r.1.length < i + fu → i ≤ r.1.length →
  lStays_l1 8000 a b true r fu l (i : Int) = some true
 | 0, i, l, h1, h2 => by omega
 | fu + 1, i, l, h1, h2 => by
  rw [lStays_l1, List.nil_append]
  by_cases hi : i < r.1.length
  ·rw [ite_t (decide_eq_true (by omega)), gd_pos (by omega), gd_pos (by omega), gd_pos (by omega), gd_pos (by omega), gd_pos (okI64 (by omega) (by omega))]
   exact lStays_l1_is a b hb r hr hl fu (i + 1) _ (by omega) hi
  ·rw [ite_f (decide_eq_false (by omega)), hr, Option.bind_some, gd_pos (by unfold rmB; omega), nRead_is (by decide) (by omega), Option.bind_some]
   rw [show (0 : Int) = ((0 : Nat) : Int) from rfl]
   exact lStays_l2_is b hb r r rfl 8000 0 _ (by omega) (by omega)
theorem lStays_is (a : nmT) (b : List UInt8) : lStays 8000 a b = some true := by
 unfold lStays
 rw [lup8, Option.bind_some, light_is (by decide), Option.bind_some]
 cases hb : lgNB a with
 | false => rfl
 | true =>
  rw [ite_f (by rfl)]
  by_cases h4 : 4000 < b.length
  ·rw [ite_t (decide_eq_true (by omega))]
  ·rw [ite_f (decide_eq_false (by omega)), nWrite_is (by decide), Option.bind_some]
   cases hy : nmA a with
   | none =>
    rw [show (0 : Int) = ((0 : Nat) : Int) from rfl]
    exact lStays_l1_is a b (by omega) ([], some 1) (by rw [nWrite_is (by decide), hy]) (by simp) 8000 0 _ (by simp) (by simp)
   | some y =>
    have hl := nmA_len hy
    rw [show (0 : Int) = ((0 : Nat) : Int) from rfl]
    exact lStays_l1_is a b (by omega) (y, none) (by rw [nWrite_is (by decide), hy]) (by simp only; omega) 8000 0 _ (by simp only; omega) (by simp)
end Go.Sx
end
section
namespace Go.Sx
open Go Go.RowKit Go.Ch Go.Proofs.Ytobfglafchoipaa
end Go.Sx
namespace Go.Proofs.Ytobfglafchoipaa
open Go.RowKit Go.Ch Go.Sx
theorem nameStays_c (w : World) (v0 : Value) (l0 : List (List (List UInt32 × (UInt8 × List UInt8)))) (q0 : Pl) (hq0 : v0 = .slice q0.A q0.n q0.cap) (ho0 : ∀ ρ, objR ρ w q0 ⟨.dp false, 47, 1, l0.length, .d (.sl 46 (.pr (.wo 92) (.pr .u8 (.by 5)))) l0⟩) (B1 : Nat) (v1 : Value) (l1 : List UInt8) (hv1 : Sl w B1 v1 (l1.map bU)) :
  Calls Try.prog 9 #[v0, v1] w (Ret fun v' w' => Ext w w' ∧ v' = .bool true) := by
 obtain ⟨p1, a1, b1⟩ := in_b hv1 5
 exact law_of (lStays_ok 8000 true) (args := [.c (.wh 0), .c (.wh 1)]) (H := [⟨.dp false, 47, 1, l0.length, .d (.sl 46 (.pr (.wo 92) (.pr .u8 (.by 5)))) l0⟩, ⟨.ro false, 5, 1, l1.length, .b l1⟩]) (ρ := plL [q0, p1]) (vals := [v0, v1]) rfl (allP_cons.2 ⟨(lStays_is l0 l1), allP_nil⟩) trivial (hpL (ps := [q0, p1]) (F2.cons ho0 (F2.cons b1 F2.nil))) (F2.cons hq0 (F2.cons a1 F2.nil))
end Go.Proofs.Ytobfglafchoipaa
end
section
namespace Go.Sx
open Go Go.ChangeShapes Go.WideShapes Go.RowKit Go.Ch
def bInt (P : Program) (k : IntKind) (t : TypeId) : Bool := match P.underlying t with | some (.int k') => decide (k' = k) | _ => false
def bSlI (P : Program) (k : IntKind) (t : TypeId) : Bool := match P.underlying t with | some (.slice e) => bInt P k e && P.cellsOf e == 1 | _ => false
def bSl (P : Program) (sz : Nat) (f : TypeId → Bool) (t : TypeId) : Bool := match P.underlying t with | some (.slice e) => P.cellsOf e == sz && f e | _ => false
def bF1 (P : Program) (sz : Nat) (f : TypeId → Bool) (fs : List Field) (off : Nat) : Bool := match fs with | [g] => g.offset == off && P.cellsOf g.type == sz && f g.type | _ => false
def bPr (P : Program) (sa : Nat) (f : TypeId → Bool) (g : List Field → Nat → Bool) (fs : List Field) (off : Nat) : Bool := match fs with | h :: r => h.offset == off && P.cellsOf h.type == sa && f h.type && g r (off + sa) | _ => false
def bSt (P : Program) (sz : Nat) (f : List Field → Nat → Bool) (t : TypeId) : Bool := match P.underlying t with | some (.struct fs) => P.cellsOf t == sz && f fs.toList 0 | _ => false
structure Shb where
 t : TypeId → Bool
 f : List Field → Nat → Bool
def shB1 (P : Program) (sz : Nat) (f : TypeId → Bool) : Shb := ⟨f, bF1 P sz f⟩
def shB (P : Program) : Dsh → Shb
 | .u8 => shB1 P 1 (bInt P .u8)
 | .u32 => shB1 P 1 (bInt P .u32)
 | .i64 => shB1 P 1 (bInt P .i64)
 | .by _ => shB1 P 1 (bSlI P .u8)
 | .wo _ => shB1 P 1 (bSlI P .u32)
 | .sl _ x => shB1 P 1 (bSl P x.sz (shB P x).t)
 | .pr a b => ⟨bSt P (a.sz + b.sz) (bPr P a.sz (shB P a).t (shB P b).f), bPr P a.sz (shB P a).t (shB P b).f⟩
section
variable {H : Type} {enc : TypeId × Value → H} {P : Program} {W : World} {base : Nat} {held : Bool}
def OpE (enc : TypeId × Value → H) (P : Program) (W : World) (base : Nat) (held : Bool) (x : Dsh) (t : TypeId) : Prop := ∀ (fuel : Nat) (cs : List Value) (y : DataW H × List MemPlace), DataW.trod enc P W base (fun _ => true) held fuel t cs = some y → ∃ v, RdE W x cs v
theorem op_int {k : IntKind} {t : TypeId} (ht : P.underlying t = some (.int k)) {fuel : Nat} {cs : List Value} {y : DataW H × List MemPlace} (h : DataW.trod enc P W base (fun _ => true) held fuel t cs = some y) : ∃ n, cs = [.int k n] ∧ (Lit.int k n).wf = true := by
 obtain ⟨n, h1, _, h2⟩ := DataW.trod_int ht h
 exact ⟨n, h1, h2⟩
theorem op_u8 {t : TypeId} (ht : P.underlying t = some (.int .u8)) : OpE enc P W base held .u8 t := fun fuel cs y h => by
 obtain ⟨n, rfl, hw⟩ := op_int ht h
 refine ⟨UInt8.ofNat n.toNat, RdE.s1 (fun gv hg => ?_) rfl⟩
 show gv _ = bU _
 rw [hg]
 simp [Lit.wf, IntKind.min, IntKind.max, IntKind.signed, IntKind.bits] at hw
 unfold bU
 congr 1
 simp
 omega
theorem op_u32 {t : TypeId} (ht : P.underlying t = some (.int .u32)) : OpE enc P W base held .u32 t := fun fuel cs y h => by
 obtain ⟨n, rfl, hw⟩ := op_int ht h
 obtain ⟨x, hx⟩ := u32_of_int hw
 exact ⟨x, RdE.s1 (fun gv hg => by show gv _ = w32 _; rw [hg, hx]) rfl⟩
theorem op_i64 {t : TypeId} (ht : P.underlying t = some (.int .i64)) : OpE enc P W base held .i64 t := fun fuel cs y h => by
 obtain ⟨n, rfl, hw⟩ := op_int ht h
 exact ⟨n, RdE.s1 (fun gv hg => by show gv _ = _; rw [hg]) rfl⟩
theorem op_by {t e : TypeId} (e' : TypeId) (ht : P.underlying t = some (.slice e)) (he : P.underlying e = some (.int .u8)) (hc : P.cellsOf e = 1) : OpE enc P W base held (.by e') t := fun fuel cs y h => by
 rcases open_ints ht he hc h with ⟨rfl, _⟩ | ⟨x, l, c, zs, rfl, _, hl, hm, hz, _, hcell, hwz⟩
 ·exact ⟨[], RdE.by e' (sl_of_row (k := .u8) (w := W) (zs := []) (.inl ⟨rfl, rfl, rfl, rfl⟩)).1⟩
 ·obtain ⟨h1, h2⟩ := sl_of_row (k := .u8) (w := W) (zs := zs) (.inr ⟨_, rfl, hl, hm, by simpa using hz, hcell, hwz⟩)
  obtain ⟨l, hl⟩ := bytes_of_ints h2
  exact ⟨l, RdE.by e' (by rw [← hl]; exact h1)⟩
theorem op_wo {t e : TypeId} (e' : TypeId) (ht : P.underlying t = some (.slice e)) (he : P.underlying e = some (.int .u32)) (hc : P.cellsOf e = 1) : OpE enc P W base held (.wo e') t := fun fuel cs y h => by
 rcases open_ints ht he hc h with ⟨rfl, _⟩ | ⟨x, l, c, zs, rfl, _, hl, hm, hz, _, hcell, hwz⟩
 ·exact ⟨[], RdE.wo e' (sl_of_row (k := .u32) (w := W) (zs := []) (.inl ⟨rfl, rfl, rfl, rfl⟩)).1⟩
 ·obtain ⟨h1, h2⟩ := sl_of_row (k := .u32) (w := W) (zs := zs) (.inr ⟨_, rfl, hl, hm, by simpa using hz, hcell, hwz⟩)
  obtain ⟨l, hl, _⟩ := words_of_ints h2
  exact ⟨l, RdE.wo e' (by rw [← hl]; exact h1)⟩
def w2 (W : World) (a : Addr) (off n : Nat) (vs : List Value) : Prop := vs.length = n ∧ ∀ j u, vs[j]? = some u → W.cell? ((a.add off).add j) = some u
theorem w2_of {W : World} {base : Nat} {a : Addr} {off n : Nat} {vs : List Value} (h : W.cells? base (a.add off) n = some vs) : w2 W a off n vs := by
 obtain ⟨_, h1, h2⟩ := World.cells?_some h
 refine ⟨h1, fun j u hu => ?_⟩
 have hj : j < n := by rw [← h1]; exact (List.getElem?_eq_some_iff.1 hu).1
 rw [h2 j hj]; exact hu
theorem op_sl {t e : TypeId} {x : Dsh} (e' : TypeId) (ht : P.underlying t = some (.slice e)) (hc : P.cellsOf e = x.sz) (hx : OpE enc P W base held x e) : OpE enc P W base held (.sl e' x) t := fun fuel cs y h => by
 have hpos := x.sz_pos
 rcases DataW.trod_slice ht h with ⟨rfl, _⟩ | ⟨a, len, cap, elems, rest, n, rfl, rfl, _, hb, hl, hm, hlen, hel, _⟩
 ·refine ⟨([] : List x.T), RdE.sl0 e' (F := fun _ => False) (gv := fun _ => .slice none 0 0) rfl (fun g hg => hg.elim) ⟨none, 0, rfl, Nat.le_refl _, by simp [maxLen], fun _ => rfl, fun ad ha _ => (nomatch ha), fun k y hy => (nomatch hy)⟩⟩
 ·have each : ∀ i, i < len → ∃ vs : List Value, w2 W a (i * x.sz) x.sz vs ∧ ∃ v, RdE W x vs v := fun i hi => by
   have h1 := hel i hi
   rw [List.getElem?_eq_getElem (by omega), hc] at h1
   cases hcs : W.cells? base (a.add (i * x.sz)) x.sz with
   | none => rw [hcs] at h1; cases h1
   | some vs =>
    rw [hcs] at h1
    exact ⟨vs, w2_of hcs, hx n vs _ h1⟩
  have each' : ∀ i, ∃ p : List Value × x.T, i < len → w2 W a (i * x.sz) x.sz p.1 ∧ RdE W x p.1 p.2 := fun i => by
   by_cases hi : i < len
   ·obtain ⟨vs, h1, v, h2⟩ := each i hi
    exact ⟨(vs, v), fun _ => ⟨h1, h2⟩⟩
   ·exact ⟨([], x.df), fun h => absurd h hi⟩
  obtain ⟨pf, hpf⟩ := Classical.axiomOfChoice each'
  let l : List x.T := (List.range len).map fun i => (pf i).2
  have hll : l.length = len := by simp [l]
  let vs : List Value := (List.range (len * x.sz)).map fun j => (pf (j / x.sz)).1.getD (j % x.sz) undef
  have hvl : vs.length = len * x.sz := by simp [vs]
  have hvs : ∀ k g, k < len → g < x.sz → vs[k * x.sz + g]? = (pf k).1[g]? := fun k g hk hg => by
   have h1 : k * x.sz + g < len * x.sz := by
    have := Nat.mul_le_mul_right x.sz (show k + 1 ≤ len by omega)
    rw [Nat.add_mul, Nat.one_mul] at this; omega
   have e1 : (k * x.sz + g) / x.sz = k := by rw [Nat.add_comm, Nat.add_mul_div_right _ _ hpos, Nat.div_eq_of_lt hg, Nat.zero_add]
   have e2 : (k * x.sz + g) % x.sz = g := by rw [Nat.add_comm, Nat.add_mul_mod_self_right, Nat.mod_eq_of_lt hg]
   have hlen2 := ((hpf k hk).1).1
   show ((List.range (len * x.sz)).map fun j => (pf (j / x.sz)).1.getD (j % x.sz) undef)[k * x.sz + g]? = _
   rw [List.getElem?_map, List.getElem?_range h1]
   show some ((pf ((k * x.sz + g) / x.sz)).1.getD ((k * x.sz + g) % x.sz) undef) = _
   rw [e1, e2, List.getD_eq_getElem?_getD, List.getElem?_eq_getElem (by omega)]; rfl
  obtain ⟨F, gv, g1, g2, g3⟩ := DR.mk (w := W) (x := x) (l := l) (A := some a) (cap := cap) e' (by rw [hll]; exact hl) hm (fun h => nomatch h) vs (fun ad had j u hu => by
   injection had with had; subst had
   have hj : j < len * x.sz := by rw [← hvl]; exact (List.getElem?_eq_some_iff.1 hu).1
   have hk : j / x.sz < len := Nat.div_lt_of_lt_mul (by rw [Nat.mul_comm]; exact hj)
   have hg : j % x.sz < x.sz := Nat.mod_lt _ hpos
   have := hvs _ _ hk hg
   rw [Nat.div_add_mod'] at this
   rw [this] at hu
   have h3 := ((hpf _ hk).1).2 _ u hu
   rwa [add_add, Nat.div_add_mod'] at h3) (by rw [hvl, hll]) (fun k y hy => by
   have hk : k < len := by rw [← hll]; exact (List.getElem?_eq_some_iff.1 hy).1
   have hy' : y = (pf k).2 := by
    have : l[k]? = some y := hy
    simp only [l, List.getElem?_map, List.getElem?_range hk, Option.map_some, Option.some.injEq] at this
    exact this.symm
   subst hy'
   obtain ⟨F, gv, d1, d2, d3⟩ := (hpf k hk).2
   exact ⟨F, gv, fun g hg => by rw [d1 g hg, hvs k g hk hg], d2, d3⟩)
  exact ⟨l, RdE.sl0 e' (g1.trans (by rw [hll])) g2 g3⟩
theorem op_struct {t : TypeId} {fs : Array Field} {x : Dsh} (ht : P.underlying t = some (.struct fs)) (hx : ∀ (cs : List Value), cs.length = P.cellsOf t → (∀ f ∈ fs.toList, ∃ n y, DataW.trod enc P W base (fun _ => true) held n f.type ((cs.drop f.offset).take (P.cellsOf f.type)) = some y) → ∃ v, RdE W x cs v) : OpE enc P W base held x t := fun fuel cs y h => by
 obtain ⟨xs, n, _, _, hl, hxl, hel⟩ := DataW.trod_struct ht h
 refine hx cs hl fun f hf => ?_
 obtain ⟨i, hi⟩ := List.mem_iff_getElem?.1 hf
 have h1 := hel i f (by rw [← Array.getElem?_toList]; exact hi)
 have hlt : i < xs.length := by rw [hxl, ← Array.length_toList]; exact (List.getElem?_eq_some_iff.1 hi).1
 rw [List.getElem?_eq_getElem hlt] at h1
 exact ⟨n, _, h1⟩
def OpF (enc : TypeId × Value → H) (P : Program) (W : World) (base : Nat) (held : Bool) (x : Dsh) (fs : List Field) (off : Nat) : Prop := ∀ (cs : List Value), off + x.sz ≤ cs.length → (∀ f ∈ fs, ∃ n y, DataW.trod enc P W base (fun _ => true) held n f.type ((cs.drop f.offset).take (P.cellsOf f.type)) = some y) → ∃ v, RdE W x ((cs.drop off).take x.sz) v
theorem op_f1 {x : Dsh} {f : Field} {off : Nat} (h1 : f.offset = off) (h2 : P.cellsOf f.type = x.sz) (hx : OpE enc P W base held x f.type) : OpF enc P W base held x [f] off := fun cs _ hf => by
 obtain ⟨n, y, h⟩ := hf f (by simp)
 rw [h1, h2] at h
 exact hx n _ y h
theorem op_f2 {a b : Dsh} {f : Field} {fs : List Field} {off : Nat} (h1 : f.offset = off) (h2 : P.cellsOf f.type = a.sz) (ha : OpE enc P W base held a f.type) (hb : OpF enc P W base held b fs (off + a.sz)) : OpF enc P W base held (.pr a b) (f :: fs) off := fun cs hl hf => by
 have hl' : off + (a.sz + b.sz) ≤ cs.length := hl
 obtain ⟨v, hv⟩ := op_f1 h1 h2 ha cs (by omega) (fun g hg => hf g (by simp at hg; simp [hg]))
 obtain ⟨u, hu⟩ := hb cs (by omega) (fun g hg => hf g (by simp [hg]))
 refine ⟨(v, u), RdE.pr ?_ ?_⟩
 ·rw [List.take_take]
  have : min a.sz (Dsh.pr a b).sz = a.sz := by show min a.sz (a.sz + b.sz) = _; omega
  rw [this]; exact hv
 ·rw [List.drop_take, List.drop_drop]
  have : (Dsh.pr a b).sz - a.sz = b.sz := by show a.sz + b.sz - a.sz = _; omega
  rw [this]; exact hu
structure OpOk (enc : TypeId × Value → H) (P : Program) (W : World) (base : Nat) (held : Bool) (x : Dsh) (s : Shb) : Prop where
 t : ∀ t, s.t t = true → OpE enc P W base held x t
 f : ∀ fs off, s.f fs off = true → OpF enc P W base held x fs off
theorem bInt_ok {k : IntKind} {t : TypeId} (h : bInt P k t = true) : P.underlying t = some (.int k) := by
 unfold bInt at h
 split at h
 ·rename_i k' hk; rw [hk, of_decide_eq_true h]
 ·cases h
theorem bSlI_ok {k : IntKind} {t : TypeId} (h : bSlI P k t = true) : ∃ e, P.underlying t = some (.slice e) ∧ P.underlying e = some (.int k) ∧ P.cellsOf e = 1 := by
 unfold bSlI at h
 split at h
 ·rename_i e he
  simp only [Bool.and_eq_true, beq_iff_eq] at h
  exact ⟨e, he, bInt_ok h.1, h.2⟩
 ·cases h
theorem op1 {x : Dsh} {f : TypeId → Bool} (hx : x.sz = 1) (h : ∀ t, f t = true → OpE enc P W base held x t) : OpOk enc P W base held x (shB1 P 1 f) := by
 refine ⟨h, fun fs off hf => ?_⟩
 have hf' : bF1 P 1 f fs off = true := hf
 unfold bF1 at hf'
 split at hf'
 ·simp only [Bool.and_eq_true, beq_iff_eq] at hf'
  exact op_f1 hf'.1.1 (hf'.1.2.trans hx.symm) (h _ hf'.2)
 ·cases hf'
theorem opPr {a b : Dsh} {s s' : Shb} (ha : OpOk enc P W base held a s) (hb : OpOk enc P W base held b s') (fs : List Field) (off : Nat) (h : bPr P a.sz s.t s'.f fs off = true) : OpF enc P W base held (.pr a b) fs off := by
 unfold bPr at h
 split at h
 ·simp only [Bool.and_eq_true, beq_iff_eq] at h
  exact op_f2 h.1.1.1 h.1.1.2 (ha.t _ h.1.2) (hb.f _ _ h.2)
 ·cases h
theorem opP2 {a b : Dsh} {s s' : Shb} (ha : OpOk enc P W base held a s) (hb : OpOk enc P W base held b s') : OpOk enc P W base held (.pr a b) ⟨bSt P (a.sz + b.sz) (bPr P a.sz s.t s'.f), bPr P a.sz s.t s'.f⟩ := by
 refine ⟨fun t h => ?_, fun fs off h => opPr ha hb fs off h⟩
 have h' : bSt P (a.sz + b.sz) (bPr P a.sz s.t s'.f) t = true := h
 unfold bSt at h'
 split at h'
 ·rename_i fs ht
  simp only [Bool.and_eq_true, beq_iff_eq] at h'
  refine op_struct ht fun cs hl hf => ?_
  have := opPr ha hb _ 0 h'.2 cs (by show 0 + (a.sz + b.sz) ≤ _; omega) hf
  rw [List.drop_zero, List.take_of_length_le (by rw [hl, h'.1]; exact Nat.le_refl _)] at this
  exact this
 ·cases h'
theorem op_of : ∀ (x : Dsh), OpOk enc P W base held x (shB P x)
 | .u8 => op1 rfl fun _ h => op_u8 (bInt_ok h)
 | .u32 => op1 rfl fun _ h => op_u32 (bInt_ok h)
 | .i64 => op1 rfl fun _ h => op_i64 (bInt_ok h)
 | .by e => op1 rfl fun _ h => by obtain ⟨_, h1, h2, h3⟩ := bSlI_ok h; exact op_by e h1 h2 h3
 | .wo e => op1 rfl fun _ h => by obtain ⟨_, h1, h2, h3⟩ := bSlI_ok h; exact op_wo e h1 h2 h3
 | .sl e x => op1 rfl fun _ h => by
  unfold bSl at h
  split at h
  ·rename_i ht
   simp only [Bool.and_eq_true, beq_iff_eq] at h
   exact op_sl e ht h.1 ((op_of x).t _ h.2)
  ·cases h
 | .pr a b => opP2 (op_of a) (op_of b)
theorem open_deep {x : Dsh} {e t : TypeId} {v : Value} {d : DataW H} {p : List MemPlace} (hb : (shB P (.sl e x)).t t = true) (hv : v.cells = #[v]) (h : DataW.Trod enc P W base (fun _ => true) held t v d p) :
  ∃ (l : List x.T) (q : Pl), v = .slice q.A q.n q.cap ∧ ∀ ρ, objR ρ W q ⟨.dp false, e, x.sz, l.length, .d x l⟩ := by
 obtain ⟨m, hm⟩ := h
 rw [hv] at hm
 obtain ⟨l, hl⟩ := (op_of (enc := enc) (P := P) (W := W) (base := base) (held := held) (.sl e x)).t t hb m _ _ hm
 obtain ⟨q, h1, h2⟩ := RdE.root (fun _ h => h) hl e
 exact ⟨l, q, h1, h2⟩
end
end Go.Sx
end
