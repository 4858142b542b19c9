import Derived.Test.YthichmclbiggmaaDoorZ5
import Derived.Test.YthichmclbiggmaaDoorProg
import Derived.Test.YthichmclbiggmaaDoorRows
import Derived.Test.YthichmclbiggmaaDoorChecked
import Derived.WalkKit
import Derived.ProofKit
import Derived.OpenShut
import Derived.ShutString
import Derived.ChangeOld
import Derived.Below
set_option linter.unusedVariables false
set_option linter.unusedSimpArgs false
section
namespace Go.Proofs.YthichmclbiggmaaDoor
open Go.RowKit Go.Ch Go.Sx
def tabL_gr : List (TypeId × Ti) := [(3, ⟨.int .i64, 1, 8, true, some [.int .i64]⟩),
 (4, ⟨.bool, 1, 1, true, some [.bool]⟩),
 (5, ⟨.int .u8, 1, 1, true, some [.int .u8]⟩),
 (22, ⟨.sl 55, 1, 24, false, some [.nils]⟩),
 (26, ⟨.sl 5, 1, 24, false, some [.nils]⟩),
 (55, ⟨.int .u32, 1, 4, true, some [.int .u32]⟩),
 (63, ⟨.arr 8 55, 8, 32, true, some [.int .u32, .int .u32, .int .u32, .int .u32, .int .u32, .int .u32, .int .u32, .int .u32]⟩),
 (65, ⟨.st [(22, 0), (63, 1)], 9, 56, false, some [.nils, .int .u32, .int .u32, .int .u32, .int .u32, .int .u32, .int .u32, .int .u32, .int .u32]⟩),
 (88, ⟨.arr 64 5, 64, 64, true, some [.int .u8, .int .u8, .int .u8, .int .u8, .int .u8, .int .u8, .int .u8, .int .u8, .int .u8, .int .u8, .int .u8, .int .u8, .int .u8, .int .u8, .int .u8, .int .u8, .int .u8, .int .u8, .int .u8, .int .u8, .int .u8, .int .u8, .int .u8, .int .u8, .int .u8, .int .u8, .int .u8, .int .u8, .int .u8, .int .u8, .int .u8, .int .u8, .int .u8, .int .u8, .int .u8, .int .u8, .int .u8, .int .u8, .int .u8, .int .u8, .int .u8, .int .u8, .int .u8, .int .u8, .int .u8, .int .u8, .int .u8, .int .u8, .int .u8, .int .u8, .int .u8, .int .u8, .int .u8, .int .u8, .int .u8, .int .u8, .int .u8, .int .u8, .int .u8, .int .u8, .int .u8, .int .u8, .int .u8, .int .u8]⟩),
 (96, ⟨.int .u64, 1, 8, true, some [.int .u64]⟩),
 (109, ⟨.sl 96, 1, 24, false, some [.nils]⟩),
 (112, ⟨.arr 64 55, 64, 256, true, some [.int .u32, .int .u32, .int .u32, .int .u32, .int .u32, .int .u32, .int .u32, .int .u32, .int .u32, .int .u32, .int .u32, .int .u32, .int .u32, .int .u32, .int .u32, .int .u32, .int .u32, .int .u32, .int .u32, .int .u32, .int .u32, .int .u32, .int .u32, .int .u32, .int .u32, .int .u32, .int .u32, .int .u32, .int .u32, .int .u32, .int .u32, .int .u32, .int .u32, .int .u32, .int .u32, .int .u32, .int .u32, .int .u32, .int .u32, .int .u32, .int .u32, .int .u32, .int .u32, .int .u32, .int .u32, .int .u32, .int .u32, .int .u32, .int .u32, .int .u32, .int .u32, .int .u32, .int .u32, .int .u32, .int .u32, .int .u32, .int .u32, .int .u32, .int .u32, .int .u32, .int .u32, .int .u32, .int .u32, .int .u32]⟩),
 (130, ⟨.arr 4 96, 4, 32, true, some [.int .u64, .int .u64, .int .u64, .int .u64]⟩),
 (132, ⟨.arr 5 96, 5, 40, true, some [.int .u64, .int .u64, .int .u64, .int .u64, .int .u64]⟩)]
def tab_gr : Tab := fun t => (tabL_gr).lookup t
theorem tabE_gr : (tabL_gr.map fun p => tiOf Tryd.prog p.1) = tabL_gr.map fun p => some p.2 := by kernel_rfl
theorem tabO_gr : TabOk Tryd.prog tab_gr := tab_of tabE_gr
def hbit (n : Nat) (a0 : UInt32) (a1 : Int) : Option (UInt32) :=
 bif (decide (a1 < (0 : Int))) then
 some 0
 else
 gd (okI .i64 (31 - a1)) <|
 gd (0 ≤ (31 - a1)) <|
 some ((shr32 a0 (31 - a1)) &&& (1 : UInt32))
def hmixed_j1 (n : Nat) (a0 : UInt32) (a1 : Int) (a2 : Int) (a3 : Int) (a4 : Bool) (x11_1 : UInt32) (i12_1 : Int) (k_l1 : UInt32 → Int → Option (UInt32)) (x13_5 : UInt32) : Option (UInt32) :=
 gd (okI .i64 (i12_1 - a1)) <|
 gd (okI .i64 ((i12_1 - a1) + 32)) <|
 gd ((32 : Int) ≠ 0) <|
 (hbit n a0 (Int.tmod ((i12_1 - a1) + 32) 32)).bind fun r40_2 =>
 gd (okI .i64 (i12_1 - a2)) <|
 gd (okI .i64 ((i12_1 - a2) + 32)) <|
 gd ((32 : Int) ≠ 0) <|
 (hbit n a0 (Int.tmod ((i12_1 - a2) + 32) 32)).bind fun r47_2 =>
 gd ((2 : UInt32) ≠ 0) <|
 gd (okI .i64 (i12_1 + 1)) <|
 k_l1 ((x11_1 * (2 : UInt32)) + (((r40_2 + r47_2) + x13_5) % (2 : UInt32))) (i12_1 + 1)
def hmixed_l1 (n : Nat) (a0 : UInt32) (a1 : Int) (a2 : Int) (a3 : Int) (a4 : Bool) : Nat → UInt32 → Int → Option (UInt32)
 | 0, _, _ => none
 | fu_l1 + 1, x11_1, i12_1 =>
  bif (decide (i12_1 < (32 : Int))) then
   gd (okI .i64 (i12_1 - a3)) <|
   (hbit n a0 (i12_1 - a3)).bind fun r22_2 =>
   bif (!a4) then
    gd (okI .i64 (i12_1 - a3)) <|
    gd (okI .i64 ((i12_1 - a3) + 32)) <|
    gd ((32 : Int) ≠ 0) <|
    (hbit n a0 (Int.tmod ((i12_1 - a3) + 32) 32)).bind fun r31_2 =>
    hmixed_j1 n a0 a1 a2 a3 a4 x11_1 i12_1 (hmixed_l1 n a0 a1 a2 a3 a4 fu_l1) r31_2
   else
    hmixed_j1 n a0 a1 a2 a3 a4 x11_1 i12_1 (hmixed_l1 n a0 a1 a2 a3 a4 fu_l1) r22_2
  else
   some x11_1
def hmixed (n : Nat) (a0 : UInt32) (a1 : Int) (a2 : Int) (a3 : Int) (a4 : Bool) : Option (UInt32) :=
 hmixed_l1 n a0 a1 a2 a3 a4 n 0 0
def hsched_j1 (n : Nat) (a0 : List UInt8) (i4_1 : Int) (k_l1 : (List UInt32) → Int → Option (List UInt32)) (w3_18 : List UInt32) : Option (List UInt32) :=
 gd (okI .i64 (i4_1 + 1)) <|
 k_l1 w3_18 (i4_1 + 1)
def hsched_l2 (n : Nat) (a0 : List UInt8) (i4_1 : Int) (k_l1 : (List UInt32) → Int → Option (List UInt32)) : Nat → List UInt32 → Int → Option (List UInt32)
 | 0, _, _ => none
 | fu_l2 + 1, w3_19, i5_11 =>
 bif (decide (i5_11 < (4 : Int))) then
 gd (0 ≤ i4_1) <|
 gd (i4_1 < (64 : Int)) <|
 gd (okI .i64 (4 * i4_1)) <|
 gd (okI .i64 ((4 * i4_1) + i5_11)) <|
 gd (0 ≤ ((4 * i4_1) + i5_11)) <|
 gd (((4 * i4_1) + i5_11) < (64 : Int)) <|
 gd (0 ≤ i4_1) <|
 gd (i4_1 < (64 : Int)) <|
 gd (okI .i64 (i5_11 + 1)) <|
 (hsched_l2 n a0 i4_1 k_l1 fu_l2) (w3_19.set i4_1.toNat (((w3_19.getD i4_1.toNat 0) * (256 : UInt32)) + ((a0.getD (((4 * i4_1) + i5_11).toNat) 0).toUInt32))) (i5_11 + 1)
 else
 hsched_j1 n a0 i4_1 k_l1 w3_19
def hsched_l1 (n : Nat) (a0 : List UInt8) : Nat → List UInt32 → Int → Option (List UInt32)
 | 0, _, _ => none
 | fu_l1 + 1, w3_13, i4_1 =>
  bif (decide (i4_1 < (64 : Int))) then
   bif (decide (i4_1 < (16 : Int))) then
    hsched_l2 n a0 i4_1 (hsched_l1 n a0 fu_l1) n w3_13 0
   else
    gd (okI .i64 (i4_1 - 16)) <|
    gd (0 ≤ (i4_1 - 16)) <|
    gd ((i4_1 - 16) < (64 : Int)) <|
    gd (okI .i64 (i4_1 - 15)) <|
    gd (0 ≤ (i4_1 - 15)) <|
    gd ((i4_1 - 15) < (64 : Int)) <|
    (hmixed n (w3_13.getD ((i4_1 - 15).toNat) 0) 7 18 3 true).bind fun r39_1 =>
    gd (okI .i64 (i4_1 - 7)) <|
    gd (0 ≤ (i4_1 - 7)) <|
    gd ((i4_1 - 7) < (64 : Int)) <|
    gd (okI .i64 (i4_1 - 2)) <|
    gd (0 ≤ (i4_1 - 2)) <|
    gd ((i4_1 - 2) < (64 : Int)) <|
    (hmixed n (w3_13.getD ((i4_1 - 2).toNat) 0) 17 19 10 true).bind fun r50_1 =>
    gd (0 ≤ i4_1) <|
    gd (i4_1 < (64 : Int)) <|
    hsched_j1 n a0 i4_1 (hsched_l1 n a0 fu_l1) (w3_13.set i4_1.toNat ((((w3_13.getD ((i4_1 - 16).toNat) 0) + r39_1) + (w3_13.getD ((i4_1 - 7).toNat) 0)) + r50_1))
  else
   some w3_13
def hsched (n : Nat) (a0 : List UInt8) : Option (List UInt32) :=
 hsched_l1 n a0 n (List.replicate 64 0) 0
def hchoice_j1 (n : Nat) (a0 : UInt32) (a1 : UInt32) (a2 : UInt32) (x7_1 : UInt32) (i8_1 : Int) (k_l1 : UInt32 → Int → Option (UInt32)) (x9_5 : UInt32) : Option (UInt32) :=
 gd (okI .i64 (i8_1 + 1)) <|
 k_l1 ((x7_1 * (2 : UInt32)) + x9_5) (i8_1 + 1)
def hchoice_l1 (n : Nat) (a0 : UInt32) (a1 : UInt32) (a2 : UInt32) : Nat → UInt32 → Int → Option (UInt32)
 | 0, _, _ => none
 | fu_l1 + 1, x7_1, i8_1 =>
  bif (decide (i8_1 < (32 : Int))) then
   (hbit n a2 i8_1).bind fun r16_2 =>
   (hbit n a0 i8_1).bind fun r19_2 =>
   bif (r19_2 == 1) then
    (hbit n a1 i8_1).bind fun r23_2 =>
    hchoice_j1 n a0 a1 a2 x7_1 i8_1 (hchoice_l1 n a0 a1 a2 fu_l1) r23_2
   else
    hchoice_j1 n a0 a1 a2 x7_1 i8_1 (hchoice_l1 n a0 a1 a2 fu_l1) r16_2
  else
   some x7_1
def hchoice (n : Nat) (a0 : UInt32) (a1 : UInt32) (a2 : UInt32) : Option (UInt32) :=
 hchoice_l1 n a0 a1 a2 n 0 0
def hmaj_l1 (n : Nat) (a0 : UInt32) (a1 : UInt32) (a2 : UInt32) : Nat → UInt32 → Int → Option (UInt32)
 | 0, _, _ => none
 | fu_l1 + 1, x7_1, i8_1 =>
  bif (decide (i8_1 < (32 : Int))) then
   (hbit n a0 i8_1).bind fun r17_2 =>
   (hbit n a1 i8_1).bind fun r20_2 =>
   (hbit n a2 i8_1).bind fun r24_2 =>
   gd ((2 : UInt32) ≠ 0) <|
   gd (okI .i64 (i8_1 + 1)) <|
   (hmaj_l1 n a0 a1 a2 fu_l1) ((x7_1 * (2 : UInt32)) + (((r17_2 + r20_2) + r24_2) / (2 : UInt32))) (i8_1 + 1)
  else
   some x7_1
def hmaj (n : Nat) (a0 : UInt32) (a1 : UInt32) (a2 : UInt32) : Option (UInt32) :=
 hmaj_l1 n a0 a1 a2 n 0 0
def hround (n : Nat) (a0 : List UInt32) (a1 : UInt32) : Option (List UInt32) :=
 gd (0 ≤ (7 : Int)) <|
 gd ((7 : Int) < (8 : Int)) <|
 gd (0 ≤ (4 : Int)) <|
 gd ((4 : Int) < (8 : Int)) <|
 (hmixed n (a0.getD 4 0) 6 11 25 false).bind fun r11 =>
 gd (0 ≤ (4 : Int)) <|
 gd ((4 : Int) < (8 : Int)) <|
 gd (0 ≤ (5 : Int)) <|
 gd ((5 : Int) < (8 : Int)) <|
 gd (0 ≤ (6 : Int)) <|
 gd ((6 : Int) < (8 : Int)) <|
 (hchoice n (a0.getD 4 0) (a0.getD 5 0) (a0.getD 6 0)).bind fun r19 =>
 gd (0 ≤ (0 : Int)) <|
 gd ((0 : Int) < (8 : Int)) <|
 (hmixed n (a0.getD 0 0) 2 13 22 false).bind fun r26 =>
 gd (0 ≤ (0 : Int)) <|
 gd ((0 : Int) < (8 : Int)) <|
 gd (0 ≤ (1 : Int)) <|
 gd ((1 : Int) < (8 : Int)) <|
 gd (0 ≤ (2 : Int)) <|
 gd ((2 : Int) < (8 : Int)) <|
 (hmaj n (a0.getD 0 0) (a0.getD 1 0) (a0.getD 2 0)).bind fun r34 =>
 gd (0 ≤ (0 : Int)) <|
 gd ((0 : Int) < (8 : Int)) <|
 gd (0 ≤ (1 : Int)) <|
 gd ((1 : Int) < (8 : Int)) <|
 gd (0 ≤ (2 : Int)) <|
 gd ((2 : Int) < (8 : Int)) <|
 gd (0 ≤ (3 : Int)) <|
 gd ((3 : Int) < (8 : Int)) <|
 gd (0 ≤ (4 : Int)) <|
 gd ((4 : Int) < (8 : Int)) <|
 gd (0 ≤ (5 : Int)) <|
 gd ((5 : Int) < (8 : Int)) <|
 gd (0 ≤ (6 : Int)) <|
 gd ((6 : Int) < (8 : Int)) <|
 some [((((((a0.getD 7 0) + r11) + r19) + a1) + r26) + r34), (a0.getD 0 0), (a0.getD 1 0), (a0.getD 2 0), ((a0.getD 3 0) + ((((a0.getD 7 0) + r11) + r19) + a1)), (a0.getD 4 0), (a0.getD 5 0), (a0.getD 6 0)]
def hpress_l2 (n : Nat) (a1 : List UInt32) : Nat → List UInt32 → Int → Option (List UInt32)
 | 0, _, _ => none
 | fu_l2 + 1, w8_3, i10_1 =>
 bif (decide (i10_1 < (8 : Int))) then
 gd (0 ≤ i10_1) <|
 gd (i10_1 < (8 : Int)) <|
 gd (0 ≤ i10_1) <|
 gd (i10_1 < (8 : Int)) <|
 gd (0 ≤ i10_1) <|
 gd (i10_1 < (8 : Int)) <|
 gd (okI .i64 (i10_1 + 1)) <|
 (hpress_l2 n a1 fu_l2) (w8_3.set i10_1.toNat ((w8_3.getD i10_1.toNat 0) + (a1.getD i10_1.toNat 0))) (i10_1 + 1)
 else
 some w8_3
def hpress_l1 (n : Nat) (a0 : List UInt32) (a1 : List UInt32) (r12 : List UInt32) : Nat → List UInt32 → Int → Option (List UInt32)
 | 0, _, _ => none
 | fu_l1 + 1, w8_2, i9_1 =>
  bif (decide (i9_1 < (64 : Int))) then
   gd (0 ≤ i9_1) <|
   gd (i9_1 < (64 : Int)) <|
   gd (0 ≤ i9_1) <|
   gd (i9_1 < ((a0.length : Nat) : Int)) <|
   (hround n w8_2 ((r12.getD i9_1.toNat 0) + (a0.getD i9_1.toNat 0))).bind fun r27_2 =>
   gd (okI .i64 (i9_1 + 1)) <|
   (hpress_l1 n a0 a1 r12 fu_l1) r27_2 (i9_1 + 1)
  else
   hpress_l2 n a1 n w8_2 0
def hpress (n : Nat) (a0 : List UInt32) (a1 : List UInt32) (a2 : List UInt8) : Option (List UInt32) :=
 (hsched n a2).bind fun r12 =>
 hpress_l1 n a0 a1 r12 n a1 0
def htail_l1 (n : Nat) (l3_4 : List UInt8) : Nat → List UInt8 → Int → Int → Option (List UInt8)
 | 0, _, _, _ => none
 | fu_l1 + 1, l4_1, i5_1, i6_1 =>
 bif (decide ((0 : Int) ≤ i6_1)) then
 gd ((256 : Int) ≠ 0) <|
 gd (0 ≤ i6_1) <|
 gd (i6_1 < (8 : Int)) <|
 gd ((256 : Int) ≠ 0) <|
 gd (okI .i64 (Int.tdiv i5_1 256)) <|
 gd (okI .i64 (i6_1 - 1)) <|
 (htail_l1 n l3_4 fu_l1) (l4_1.set i6_1.toNat (UInt8.ofInt (Int.tmod i5_1 256))) (Int.tdiv i5_1 256) (i6_1 - 1)
 else
 gd (rmB (l3_4.length + 8) 1) <|
 some (l3_4 ++ l4_1)
def htail_j1 (n : Nat) (a0 : Int) (l3_4 : List UInt8) : Option (List UInt8) :=
 gd (0 ≤ (8 : Int)) <|
 gd ((8 : Int) = (8 : Int)) <|
 gd (rmB 8 1) <|
 gd (okI .i64 (8 * a0)) <|
 htail_l1 n l3_4 n (List.replicate 8 0) (8 * a0) 7
def htail_l2 (n : Nat) (a0 : Int) : Nat → List UInt8 → Option (List UInt8)
 | 0, _ => none
 | fu_l2 + 1, l3_5 =>
 gd (okI .i64 (a0 + ((l3_5.length : Nat) : Int))) <|
 gd (okI .i64 ((a0 + ((l3_5.length : Nat) : Int)) + 8)) <|
 gd ((64 : Int) ≠ 0) <|
 bif ((Int.tmod ((a0 + ((l3_5.length : Nat) : Int)) + 8) 64) != 0) then
 gd (rmB (l3_5.length + 1) 1) <|
 (htail_l2 n a0 fu_l2) (l3_5 ++ [0])
 else
 htail_j1 n a0 l3_5
def htail (n : Nat) (a0 : Int) : Option (List UInt8) :=
 htail_l2 n a0 n [128]
def rprimes_j1 (n : Nat) (a0 : Int) (y4_1 : UInt64) (k_l1 : (List UInt64) → UInt64 → Option (List UInt64)) (q3_5 : List UInt64) : Option (List UInt64) :=
 k_l1 q3_5 (y4_1 + (1 : UInt64))
def rprimes_l2 (n : Nat) (a0 : Int) (q3_3 : List UInt64) (y4_1 : UInt64) (k_l1 : (List UInt64) → UInt64 → Option (List UInt64)) : Nat → Bool → Int → Option (List UInt64)
 | 0, _, _ => none
 | fu_l2 + 1, p5_7, i6_7 =>
 bif (decide (i6_7 < ((q3_3.length : Nat) : Int))) then
 bif p5_7 then
 gd (0 ≤ i6_7) <|
 gd (i6_7 < ((q3_3.length : Nat) : Int)) <|
 gd ((q3_3.getD i6_7.toNat 0) ≠ 0) <|
 gd (okI .i64 (i6_7 + 1)) <|
 (rprimes_l2 n a0 q3_3 y4_1 k_l1 fu_l2) ((y4_1 % (q3_3.getD i6_7.toNat 0)) != 0) (i6_7 + 1)
 else
 gd (okI .i64 (i6_7 + 1)) <|
 (rprimes_l2 n a0 q3_3 y4_1 k_l1 fu_l2) false (i6_7 + 1)
 else
 bif p5_7 then
 gd (rmB (q3_3.length + 1) 8) <|
 rprimes_j1 n a0 y4_1 k_l1 (q3_3 ++ [y4_1])
 else
 rprimes_j1 n a0 y4_1 k_l1 q3_3
def rprimes_l1 (n : Nat) (a0 : Int) : Nat → List UInt64 → UInt64 → Option (List UInt64)
 | 0, _, _ => none
 | fu_l1 + 1, q3_3, y4_1 =>
 bif (decide (((q3_3.length : Nat) : Int) < a0)) then
 rprimes_l2 n a0 q3_3 y4_1 (rprimes_l1 n a0 fu_l1) n true 0
 else
 some q3_3
def rprimes (n : Nat) (a0 : Int) : Option (List UInt64) :=
 rprimes_l1 n a0 n [] 2
def rproduct (n : Nat) (a0 : UInt64) (a1 : UInt64) : Option (List UInt64) :=
 gd ((4294967296 : UInt64) ≠ 0) <|
 gd ((4294967296 : UInt64) ≠ 0) <|
 gd ((4294967296 : UInt64) ≠ 0) <|
 gd ((4294967296 : UInt64) ≠ 0) <|
 gd ((4294967296 : UInt64) ≠ 0) <|
 gd ((4294967296 : UInt64) ≠ 0) <|
 gd ((4294967296 : UInt64) ≠ 0) <|
 gd ((4294967296 : UInt64) ≠ 0) <|
 gd ((4294967296 : UInt64) ≠ 0) <|
 gd ((4294967296 : UInt64) ≠ 0) <|
 gd ((4294967296 : UInt64) ≠ 0) <|
 gd ((4294967296 : UInt64) ≠ 0) <|
 gd (0 ≤ (0 : Int)) <|
 gd ((0 : Int) < (4 : Int)) <|
 gd ((4294967296 : UInt64) ≠ 0) <|
 gd (0 ≤ (1 : Int)) <|
 gd ((1 : Int) < (4 : Int)) <|
 gd ((4294967296 : UInt64) ≠ 0) <|
 gd (0 ≤ (2 : Int)) <|
 gd ((2 : Int) < (4 : Int)) <|
 gd ((4294967296 : UInt64) ≠ 0) <|
 gd ((4294967296 : UInt64) ≠ 0) <|
 gd (0 ≤ (3 : Int)) <|
 gd ((3 : Int) < (4 : Int)) <|
 some (((((List.replicate 4 0).set 0 (((a0 % (4294967296 : UInt64)) * (a1 % (4294967296 : UInt64))) % (4294967296 : UInt64))).set 1 ((((((a0 % (4294967296 : UInt64)) * (a1 / (4294967296 : UInt64))) % (4294967296 : UInt64)) + (((a0 / (4294967296 : UInt64)) * (a1 % (4294967296 : UInt64))) % (4294967296 : UInt64))) + (((a0 % (4294967296 : UInt64)) * (a1 % (4294967296 : UInt64))) / (4294967296 : UInt64))) % (4294967296 : UInt64))).set 2 (((((((a0 % (4294967296 : UInt64)) * (a1 / (4294967296 : UInt64))) / (4294967296 : UInt64)) + (((a0 / (4294967296 : UInt64)) * (a1 % (4294967296 : UInt64))) / (4294967296 : UInt64))) + (((a0 / (4294967296 : UInt64)) * (a1 / (4294967296 : UInt64))) % (4294967296 : UInt64))) + ((((((a0 % (4294967296 : UInt64)) * (a1 / (4294967296 : UInt64))) % (4294967296 : UInt64)) + (((a0 / (4294967296 : UInt64)) * (a1 % (4294967296 : UInt64))) % (4294967296 : UInt64))) + (((a0 % (4294967296 : UInt64)) * (a1 % (4294967296 : UInt64))) / (4294967296 : UInt64))) / (4294967296 : UInt64))) % (4294967296 : UInt64))).set 3 ((((a0 / (4294967296 : UInt64)) * (a1 / (4294967296 : UInt64))) / (4294967296 : UInt64)) + (((((((a0 % (4294967296 : UInt64)) * (a1 / (4294967296 : UInt64))) / (4294967296 : UInt64)) + (((a0 / (4294967296 : UInt64)) * (a1 % (4294967296 : UInt64))) / (4294967296 : UInt64))) + (((a0 / (4294967296 : UInt64)) * (a1 / (4294967296 : UInt64))) % (4294967296 : UInt64))) + ((((((a0 % (4294967296 : UInt64)) * (a1 / (4294967296 : UInt64))) % (4294967296 : UInt64)) + (((a0 / (4294967296 : UInt64)) * (a1 % (4294967296 : UInt64))) % (4294967296 : UInt64))) + (((a0 % (4294967296 : UInt64)) * (a1 % (4294967296 : UInt64))) / (4294967296 : UInt64))) / (4294967296 : UInt64))) / (4294967296 : UInt64))))
def rsquare (n : Nat) (a0 : UInt64) (a1 : UInt64) : Option (Bool) :=
 (rproduct n a0 a0).bind fun r10 =>
 gd (0 ≤ (3 : Int)) <|
 gd ((3 : Int) < (4 : Int)) <|
 gd (0 ≤ (2 : Int)) <|
 gd ((2 : Int) < (4 : Int)) <|
 gd (0 ≤ (1 : Int)) <|
 gd ((1 : Int) < (4 : Int)) <|
 gd (0 ≤ (0 : Int)) <|
 gd ((0 : Int) < (4 : Int)) <|
 bif (decide ((((r10.getD 3 0) * (4294967296 : UInt64)) + (r10.getD 2 0)) < a1)) then
  some true
 else
  bif ((((r10.getD 3 0) * (4294967296 : UInt64)) + (r10.getD 2 0)) == a1) then
   some ((((r10.getD 1 0) * (4294967296 : UInt64)) + (r10.getD 0 0)) == 0)
  else
   some false
def rcube_j2 (n : Nat) (a0 : UInt64) (a1 : UInt64) (r17 : List UInt64) (q6_1 : List UInt64) (i10_1 : Int) (k_l1 : (List UInt64) → UInt64 → Int → Option (Bool)) (y9_9 : UInt64) (y11_7 : UInt64) : Option (Bool) :=
 gd ((4294967296 : UInt64) ≠ 0) <|
 gd (0 ≤ i10_1) <|
 gd (i10_1 < (5 : Int)) <|
 gd ((4294967296 : UInt64) ≠ 0) <|
 gd (okI .i64 (i10_1 + 1)) <|
 k_l1 (q6_1.set i10_1.toNat (y11_7 % (4294967296 : UInt64))) (y9_9 + (y11_7 / (4294967296 : UInt64))) (i10_1 + 1)
def rcube_j1 (n : Nat) (a0 : UInt64) (a1 : UInt64) (r17 : List UInt64) (q6_1 : List UInt64) (i10_1 : Int) (k_l1 : (List UInt64) → UInt64 → Int → Option (Bool)) (y9_8 : UInt64) (y11_6 : UInt64) : Option (Bool) :=
 bif (decide ((0 : Int) < i10_1)) then
 gd (okI .i64 (i10_1 - 1)) <|
 gd (0 ≤ (i10_1 - 1)) <|
 gd ((i10_1 - 1) < (4 : Int)) <|
 gd ((4294967296 : UInt64) ≠ 0) <|
 gd ((4294967296 : UInt64) ≠ 0) <|
 rcube_j2 n a0 a1 r17 q6_1 i10_1 k_l1 (y9_8 + (((r17.getD ((i10_1 - 1).toNat) 0) * (a0 / (4294967296 : UInt64))) / (4294967296 : UInt64))) (y11_6 + (((r17.getD ((i10_1 - 1).toNat) 0) * (a0 / (4294967296 : UInt64))) % (4294967296 : UInt64)))
 else
 rcube_j2 n a0 a1 r17 q6_1 i10_1 k_l1 y9_8 y11_6
def rcube_l1 (n : Nat) (a0 : UInt64) (a1 : UInt64) (r17 : List UInt64) : Nat → List UInt64 → UInt64 → Int → Option (Bool)
 | 0, _, _, _ => none
 | fu_l1 + 1, q6_1, y9_5, i10_1 =>
 bif (decide (i10_1 < (5 : Int))) then
 bif (decide (i10_1 < (4 : Int))) then
 gd (0 ≤ i10_1) <|
 gd (i10_1 < (4 : Int)) <|
 gd ((4294967296 : UInt64) ≠ 0) <|
 gd ((4294967296 : UInt64) ≠ 0) <|
 rcube_j1 n a0 a1 r17 q6_1 i10_1 (rcube_l1 n a0 a1 r17 fu_l1) ((0 : UInt64) + (((r17.getD i10_1.toNat 0) * (a0 % (4294967296 : UInt64))) / (4294967296 : UInt64))) (y9_5 + (((r17.getD i10_1.toNat 0) * (a0 % (4294967296 : UInt64))) % (4294967296 : UInt64)))
 else
 rcube_j1 n a0 a1 r17 q6_1 i10_1 (rcube_l1 n a0 a1 r17 fu_l1) 0 y9_5
 else
 gd (0 ≤ (4 : Int)) <|
 gd ((4 : Int) < (5 : Int)) <|
 gd (0 ≤ (3 : Int)) <|
 gd ((3 : Int) < (5 : Int)) <|
 bif (decide ((((q6_1.getD 4 0) * (4294967296 : UInt64)) + (q6_1.getD 3 0)) < a1)) then
 some true
 else
 bif ((((q6_1.getD 4 0) * (4294967296 : UInt64)) + (q6_1.getD 3 0)) == a1) then
 gd (0 ≤ (0 : Int)) <|
 gd ((0 : Int) < (5 : Int)) <|
 bif ((q6_1.getD 0 0) == 0) then
 gd (0 ≤ (1 : Int)) <|
 gd ((1 : Int) < (5 : Int)) <|
 bif ((q6_1.getD 1 0) == 0) then
 gd (0 ≤ (2 : Int)) <|
 gd ((2 : Int) < (5 : Int)) <|
 some ((q6_1.getD 2 0) == 0)
 else
 some false
 else
 some false
 else
 some false
def rcube (n : Nat) (a0 : UInt64) (a1 : UInt64) : Option (Bool) :=
 (rproduct n a0 a0).bind fun r17 =>
 gd ((4294967296 : UInt64) ≠ 0) <|
 gd ((4294967296 : UInt64) ≠ 0) <|
 rcube_l1 n a0 a1 r17 n (List.replicate 5 0) 0 0
def rfraction_j1 (n : Nat) (a0 : UInt64) (a1 : Bool) (i6_1 : Int) (k_l1 : UInt64 → Int → Option (UInt32)) (y5_7 : UInt64) : Option (UInt32) :=
 gd (okI .i64 (i6_1 + 1)) <|
 k_l1 y5_7 (i6_1 + 1)
def rfraction_j2 (n : Nat) (a0 : UInt64) (a1 : Bool) (y5_5 : UInt64) (i6_1 : Int) (k_l1 : UInt64 → Int → Option (UInt32)) (p8_11 : Bool) : Option (UInt32) :=
 bif p8_11 then
 rfraction_j1 n a0 a1 i6_1 k_l1 (y5_5 + (shl64 1 (36 - i6_1)))
 else
 rfraction_j1 n a0 a1 i6_1 k_l1 y5_5
def rfraction_l1 (n : Nat) (a0 : UInt64) (a1 : Bool) : Nat → UInt64 → Int → Option (UInt32)
 | 0, _, _ => none
 | fu_l1 + 1, y5_5, i6_1 =>
  bif (decide (i6_1 < (37 : Int))) then
   gd (okI .i64 (36 - i6_1)) <|
   gd (0 ≤ (36 - i6_1)) <|
   bif a1 then
    (rcube n (y5_5 + (shl64 1 (36 - i6_1))) a0).bind fun r21_2 =>
    rfraction_j2 n a0 a1 y5_5 i6_1 (rfraction_l1 n a0 a1 fu_l1) r21_2
   else
    (rsquare n (y5_5 + (shl64 1 (36 - i6_1))) a0).bind fun r24_2 =>
    rfraction_j2 n a0 a1 y5_5 i6_1 (rfraction_l1 n a0 a1 fu_l1) r24_2
  else
   gd ((4294967296 : UInt64) ≠ 0) <|
   some ((y5_5 % (4294967296 : UInt64)).toUInt32)
def rfraction (n : Nat) (a0 : UInt64) (a1 : Bool) : Option (UInt32) :=
 rfraction_l1 n a0 a1 n 0 0
def rconstants_l1 (n : Nat) (r4 : List UInt64) : Nat → List UInt32 → Int → Option (List UInt32)
 | 0, _, _ => none
 | fu_l1 + 1, w2_1, i3_1 =>
  bif (decide (i3_1 < (64 : Int))) then
   gd (0 ≤ i3_1) <|
   gd (i3_1 < ((r4.length : Nat) : Int)) <|
   (rfraction n (r4.getD i3_1.toNat 0) true).bind fun r14_2 =>
   gd (rmB (w2_1.length + 1) 4) <|
   gd (okI .i64 (i3_1 + 1)) <|
   (rconstants_l1 n r4 fu_l1) (w2_1 ++ [r14_2]) (i3_1 + 1)
  else
   some w2_1
def rconstants (n : Nat) : Option (List UInt32) :=
 (rprimes n 64).bind fun r4 =>
 rconstants_l1 n r4 n [] 0
def refbegin_l1 (n : Nat) (r4 : List UInt64) : Nat → List UInt32 → Int → Option (List UInt32)
 | 0, _, _ => none
 | fu_l1 + 1, w2_1, i3_1 =>
  bif (decide (i3_1 < (8 : Int))) then
   gd (0 ≤ i3_1) <|
   gd (i3_1 < ((r4.length : Nat) : Int)) <|
   (rfraction n (r4.getD i3_1.toNat 0) false).bind fun r14_2 =>
   gd (0 ≤ i3_1) <|
   gd (i3_1 < (8 : Int)) <|
   gd (okI .i64 (i3_1 + 1)) <|
   (refbegin_l1 n r4 fu_l1) (w2_1.set i3_1.toNat r14_2) (i3_1 + 1)
  else
   some w2_1
def refbegin (n : Nat) : Option (List UInt32) :=
 (rprimes n 8).bind fun r4 =>
 refbegin_l1 n r4 n (List.replicate 8 0) 0
def made (n : Nat) : Option (List UInt32 × UInt32 × UInt32 × UInt32 × UInt32 × UInt32 × UInt32 × UInt32 × UInt32) :=
 (rconstants n).bind fun r1 =>
 (refbegin n).bind fun r2 =>
 some (r1, (r2.getD 0 0), (r2.getD 1 0), (r2.getD 2 0), (r2.getD 3 0), (r2.getD 4 0), (r2.getD 5 0), (r2.getD 6 0), (r2.getD 7 0))
def refsum_l2 (n : Nat) (a0_0 : List UInt32) (a0_1_0 : UInt32) (a0_1_1 : UInt32) (a0_1_2 : UInt32) (a0_1_3 : UInt32) (a0_1_4 : UInt32) (a0_1_5 : UInt32) (a0_1_6 : UInt32) (a0_1_7 : UInt32) (a1 : List UInt8) (r17 : List UInt8) (w6_2 : List UInt32) (i7_2 : Int) (k_l1 : (List UInt32) → Int → Option (List UInt8)) : Nat → List UInt8 → Int → Option (List UInt8)
 | 0, _, _ => none
 | fu_l2 + 1, l8_8, i9_8 =>
  bif (decide (i9_8 < (64 : Int))) then
   gd (okI .i64 (i7_2 + i9_8)) <|
   gd (0 ≤ (i7_2 + i9_8)) <|
   gd ((i7_2 + i9_8) < (((([] ++ a1) ++ r17).length : Nat) : Int)) <|
   gd (0 ≤ i9_8) <|
   gd (i9_8 < (64 : Int)) <|
   gd (okI .i64 (i9_8 + 1)) <|
   (refsum_l2 n a0_0 a0_1_0 a0_1_1 a0_1_2 a0_1_3 a0_1_4 a0_1_5 a0_1_6 a0_1_7 a1 r17 w6_2 i7_2 k_l1 fu_l2) (l8_8.set i9_8.toNat ((([] ++ a1) ++ r17).getD ((i7_2 + i9_8).toNat) 0)) (i9_8 + 1)
  else
   (hpress n a0_0 w6_2 l8_8).bind fun r43_8 =>
   gd (okI .i64 (i7_2 + 64)) <|
   k_l1 r43_8 (i7_2 + 64)
def refsum_l3 (n : Nat) (w6_2 : List UInt32) : Nat → List UInt8 → Int → Option (List UInt8)
 | 0, _, _ => none
 | fu_l3 + 1, l10_2, i11_2 =>
 bif (decide (i11_2 < (8 : Int))) then
 gd (0 ≤ i11_2) <|
 gd (i11_2 < (8 : Int)) <|
 gd ((16777216 : UInt32) ≠ 0) <|
 gd (0 ≤ i11_2) <|
 gd (i11_2 < (8 : Int)) <|
 gd ((65536 : UInt32) ≠ 0) <|
 gd (0 ≤ i11_2) <|
 gd (i11_2 < (8 : Int)) <|
 gd ((256 : UInt32) ≠ 0) <|
 gd (0 ≤ i11_2) <|
 gd (i11_2 < (8 : Int)) <|
 gd (rmB (l10_2.length + 4) 1) <|
 gd (okI .i64 (i11_2 + 1)) <|
 (refsum_l3 n w6_2 fu_l3) (l10_2 ++ [((w6_2.getD i11_2.toNat 0) / (16777216 : UInt32)).toUInt8, ((w6_2.getD i11_2.toNat 0) / (65536 : UInt32)).toUInt8, ((w6_2.getD i11_2.toNat 0) / (256 : UInt32)).toUInt8, (w6_2.getD i11_2.toNat 0).toUInt8]) (i11_2 + 1)
 else
 some l10_2
def refsum_l1 (n : Nat) (a0_0 : List UInt32) (a0_1_0 : UInt32) (a0_1_1 : UInt32) (a0_1_2 : UInt32) (a0_1_3 : UInt32) (a0_1_4 : UInt32) (a0_1_5 : UInt32) (a0_1_6 : UInt32) (a0_1_7 : UInt32) (a1 : List UInt8) (r17 : List UInt8) : Nat → List UInt32 → Int → Option (List UInt8)
 | 0, _, _ => none
 | fu_l1 + 1, w6_2, i7_2 =>
 bif (decide (i7_2 < (((([] ++ a1) ++ r17).length : Nat) : Int))) then
 refsum_l2 n a0_0 a0_1_0 a0_1_1 a0_1_2 a0_1_3 a0_1_4 a0_1_5 a0_1_6 a0_1_7 a1 r17 w6_2 i7_2 (refsum_l1 n a0_0 a0_1_0 a0_1_1 a0_1_2 a0_1_3 a0_1_4 a0_1_5 a0_1_6 a0_1_7 a1 r17 fu_l1) n (List.replicate 64 0) 0
 else
 refsum_l3 n w6_2 n [] 0
def refsum (n : Nat) (a0_0 : List UInt32) (a0_1_0 : UInt32) (a0_1_1 : UInt32) (a0_1_2 : UInt32) (a0_1_3 : UInt32) (a0_1_4 : UInt32) (a0_1_5 : UInt32) (a0_1_6 : UInt32) (a0_1_7 : UInt32) (a1 : List UInt8) : Option (List UInt8) :=
 gd (rmB (0 + a1.length) 1) <|
 (htail n ((a1.length : Nat) : Int)).bind fun r17 =>
 gd (rmB ((([] ++ a1).length) + r17.length) 1) <|
 gd (1 + 8 ≤ 9) <|
 refsum_l1 n a0_0 a0_1_0 a0_1_1 a0_1_2 a0_1_3 a0_1_4 a0_1_5 a0_1_6 a0_1_7 a1 r17 n [a0_1_0, a0_1_1, a0_1_2, a0_1_3, a0_1_4, a0_1_5, a0_1_6, a0_1_7] 0
def hbit_R (r : UInt32) : S := ⟨[(4, kX r)], [], []⟩
def hbit_ct (n : Nat) (r : UInt32) : Ct := ctc rU32.rd fun _ l0 => ctc rI.rd fun _ l1 => ct0 fun H => ([hbit n l0 l1 = some r], shA H.length (kX r), shH H.length [])
theorem hbit_ok (n : Nat) (r : UInt32) : FnOk Tryd.prog Tr 104 (hbit_ct n r) := by
 refine fnok Tryd.func104 ?_
 refine HO_c rU32 fun l0 _ => HO_c rI fun l1 _ => HO_0 tabO_gr (hbit_R r) [.tmp 4] [] 12 Tryd.func104 fun w hG h => ?_
 unfold hbit at h
 have hT := tabO_gr
 refine Vrs hT [] ⟨[(0, kX l0), (1, kI l1)], [], []⟩ ?_
 refine W_seq ?_
 refine Vrs hT [] ⟨[(0, kX l0), (1, kI l1), (6, kB (decide (l1 < (0 : Int))))], [], []⟩ ?_
 refine Vi ((decide (l1 < (0 : Int)))) (fun g3 => ?_) (fun g3 => ?_)
 ·replace h := bif_t h g3
  refine Vrs hT [] ⟨[(4, kX 0)], [], []⟩ ?_
  refine Vc [] [] (hbit_R 0) (W_ret ?_)
  exact ⟨.inl rfl, by cases h; rfl⟩
 ·replace h := bif_f h g3
  refine W_skip ?_
  obtain ⟨g1, g2, h⟩ := gd2 h
  refine Vgs hT fN [] [] [] ⟨[(4, kX ((shr32 l0 (31 - l1)) &&& (1 : UInt32)))], [], []⟩ (aP g1 (aP g2 aN)) ?_
  refine Vc [] [] (hbit_R ((shr32 l0 (31 - l1)) &&& (1 : UInt32))) (W_ret ?_)
  exact ⟨.inl rfl, by cases h; rfl⟩
def hmixed_j1_E (a0 : UInt32) (a1 : Int) (a2 : Int) (a3 : Int) (a4 : Bool) (x11_1 : UInt32) (i12_1 : Int) (x13_5 : UInt32) : S := ⟨[(0, kX a0), (1, kI a1), (2, kI a2), (3, kI a3), (4, kB a4), (11, kX x11_1), (12, kI i12_1), (13, kX x13_5)], [], []⟩
abbrev hmixed_j1_P (n : Nat) (a0 : UInt32) (a1 : Int) (a2 : Int) (a3 : Int) (a4 : Bool) (x11_1 : UInt32) (i12_1 : Int) (k_l1 : UInt32 → Int → Option (UInt32)) (r : UInt32) : S → Prop := fun s => ∃ (x13_5 : UInt32), s = hmixed_j1_E a0 a1 a2 a3 a4 x11_1 i12_1 x13_5 ∧ hmixed_j1 n a0 a1 a2 a3 a4 x11_1 i12_1 k_l1 x13_5 = some r
def hmixed_l1_E (a0 : UInt32) (a1 : Int) (a2 : Int) (a3 : Int) (a4 : Bool) (x11_1 : UInt32) (i12_1 : Int) : S := ⟨[(0, kX a0), (1, kI a1), (2, kI a2), (3, kI a3), (4, kB a4), (11, kX x11_1), (12, kI i12_1)], [], []⟩
abbrev hmixed_l1_P (n : Nat) (a0 : UInt32) (a1 : Int) (a2 : Int) (a3 : Int) (a4 : Bool) (r : UInt32) (fu : Nat) : S → Prop := fun s => ∃ (x11_1 : UInt32), ∃ (i12_1 : Int), s = hmixed_l1_E a0 a1 a2 a3 a4 x11_1 i12_1 ∧ hmixed_l1 n a0 a1 a2 a3 a4 fu x11_1 i12_1 = some r
def hmixed_R (r : UInt32) : S := ⟨[(10, kX r)], [], []⟩
def hmixed_ct (n : Nat) (r : UInt32) : Ct := ctc rU32.rd fun _ l0 => ctc rI.rd fun _ l1 => ctc rI.rd fun _ l2 => ctc rI.rd fun _ l3 => ctc rBo.rd fun _ l4 => ct0 fun H => ([hmixed n l0 l1 l2 l3 l4 = some r], shA H.length (kX r), shH H.length [])
theorem hmixed_ok (n : Nat) (r : UInt32) : FnOk Tryd.prog Tr 97 (hmixed_ct n r) := by
 refine fnok Tryd.func97 ?_
 refine HO_c rU32 fun l0 _ => HO_c rI fun l1 _ => HO_c rI fun l2 _ => HO_c rI fun l3 _ => HO_c rBo fun l4 _ => HO_0 tabO_gr (hmixed_R r) [.tmp 10] [] 54 Tryd.func97 fun w hG h => ?_
 unfold hmixed at h
 have hT := tabO_gr
 refine Vrs hT [] ⟨[(0, kX l0), (1, kI l1), (2, kI l2), (3, kI l3), (4, kB l4)], [], []⟩ ?_
 refine Vrs hT [] ⟨[(0, kX l0), (1, kI l1), (2, kI l2), (3, kI l3), (4, kB l4), (11, kX 0)], [], []⟩ ?_
 refine W_seq ?_
 refine Vrs hT [] ⟨[(0, kX l0), (1, kI l1), (2, kI l2), (3, kI l3), (4, kB l4), (11, kX 0), (12, kI 0)], [], []⟩ ?_
 refine W_block ?_
 refine Vc [] [] (hmixed_l1_E l0 l1 l2 l3 l4 0 0) (W_lp ((hmixed_l1_P n l0 l1 l2 l3 l4 r)) n ⟨_, _, rfl, h⟩ ?_)
 rintro fu_l1 _ ⟨x11_1, i12_1, rfl, h⟩
 cases fu_l1 with
 | zero => cases h
 | succ fu_l1 =>
  refine ⟨fu_l1, rfl, ?_⟩
  rw [hmixed_l1] at h
  refine W_seq ?_
  refine Vrs hT [] ⟨[(0, kX l0), (1, kI l1), (2, kI l2), (3, kI l3), (4, kB l4), (11, kX x11_1), (12, kI i12_1), (15, kB (decide (i12_1 < (32 : Int))))], [], []⟩ ?_
  refine Vi ((decide (i12_1 < (32 : Int)))) (fun g18 => ?_) (fun g18 => ?_)
  ·replace h := bif_t h g18
   refine W_skip ?_
   refine W_seq ?_
   refine W_block ?_
   obtain ⟨g1, h⟩ := gd_some h
   obtain ⟨r22_2, g2, h⟩ := bind_some' h
   refine Vgs hT (fT 4 (hbit_ok n r22_2) fN) [] [] [] ⟨[(0, kX l0), (1, kI l1), (2, kI l2), (3, kI l3), (4, kB l4), (11, kX x11_1), (12, kI i12_1), (13, kX r22_2)], [], []⟩ (aP g1 (aP g2 aN)) ?_
   refine W_join (hmixed_j1_P n l0 l1 l2 l3 l4 x11_1 i12_1 (hmixed_l1 n l0 l1 l2 l3 l4 fu_l1) r) ?_ ?_
   ·rintro _ ⟨x13_5, rfl, h⟩
    unfold hmixed_j1 at h
    obtain ⟨g3, g4, g5, h⟩ := gd3 h
    obtain ⟨r40_2, g6, h⟩ := bind_some' h
    obtain ⟨g7, g8, g9, h⟩ := gd3 h
    obtain ⟨r47_2, g10, h⟩ := bind_some' h
    obtain ⟨g11, h⟩ := gd_some h
    refine Vg hT (fT 8 (hbit_ok n r40_2) (fT 15 (hbit_ok n r47_2) fN)) [] [] [] ⟨[(0, kX l0), (1, kI l1), (2, kI l2), (3, kI l3), (4, kB l4), (11, kX ((x11_1 * (2 : UInt32)) + (((r40_2 + r47_2) + x13_5) % (2 : UInt32)))), (12, kI i12_1)], [], []⟩ (aP g3 (aP g4 (aP g5 (aP g6 (aP g7 (aP g8 (aP g9 (aP g10 (aP g11 aN))))))))) ?_
    obtain ⟨g12, h⟩ := gd_some h
    refine Vg hT fN [] [] [] (hmixed_l1_E l0 l1 l2 l3 l4 ((x11_1 * (2 : UInt32)) + (((r40_2 + r47_2) + x13_5) % (2 : UInt32))) (i12_1 + 1)) (aP g12 aN) ?_
    exact ⟨_, _, rfl, h⟩
   ·refine W_seq ?_
    refine Vr hT [] ⟨[(0, kX l0), (1, kI l1), (2, kI l2), (3, kI l3), (4, kB l4), (11, kX x11_1), (12, kI i12_1), (13, kX r22_2), (24, kB (!l4))], [], []⟩ ?_
    refine Vi ((!l4)) (fun g17 => ?_) (fun g17 => ?_)
    ·replace h := bif_t h g17
     obtain ⟨g13, g14, g15, h⟩ := gd3 h
     obtain ⟨r31_2, g16, h⟩ := bind_some' h
     refine Vg hT (fT 6 (hbit_ok n r31_2) fN) [] [] [] (hmixed_j1_E l0 l1 l2 l3 l4 x11_1 i12_1 r31_2) (aP g13 (aP g14 (aP g15 (aP g16 aN)))) ?_
     exact ⟨_, rfl, h⟩
    ·replace h := bif_f h g17
     refine Vc [] [] (hmixed_j1_E l0 l1 l2 l3 l4 x11_1 i12_1 r22_2) (W_skip ?_)
     exact ⟨_, rfl, h⟩
  ·replace h := bif_f h g18
   refine Vc [] [] ⟨[(11, kX x11_1)], [], []⟩ (W_exit ?_)
   refine Vrs hT [] ⟨[(10, kX x11_1)], [], []⟩ ?_
   refine Vc [] [] (hmixed_R x11_1) (W_ret ?_)
   exact ⟨.inl rfl, by cases h; rfl⟩
def hsched_j1_E (a0 : List UInt8) (i4_1 : Int) (w3_18 : List UInt32) : S := ⟨[(1, kP 0 0), (2, kP 1 0), (3, kP 2 0), (4, kI i4_1)], [], [⟨.blk, 88, 1, 64, .b a0⟩, ⟨.blk, 112, 1, 64, .w (List.replicate 64 0)⟩, ⟨.blk, 112, 1, 64, .w w3_18⟩]⟩
abbrev hsched_j1_P (n : Nat) (a0 : List UInt8) (i4_1 : Int) (k_l1 : (List UInt32) → Int → Option (List UInt32)) (r : List UInt32) : S → Prop := fun s => ∃ (w3_18 : List UInt32), s = hsched_j1_E a0 i4_1 w3_18 ∧ hsched_j1 n a0 i4_1 k_l1 w3_18 = some r
def hsched_l2_E (a0 : List UInt8) (i4_1 : Int) (w3_19 : List UInt32) (i5_11 : Int) : S := ⟨[(1, kP 0 0), (2, kP 1 0), (3, kP 2 0), (4, kI i4_1), (5, kI i5_11)], [], [⟨.blk, 88, 1, 64, .b a0⟩, ⟨.blk, 112, 1, 64, .w (List.replicate 64 0)⟩, ⟨.blk, 112, 1, 64, .w w3_19⟩]⟩
abbrev hsched_l2_P (n : Nat) (a0 : List UInt8) (i4_1 : Int) (k_l1 : (List UInt32) → Int → Option (List UInt32)) (r : List UInt32) (fu : Nat) : S → Prop := fun s => ∃ (w3_19 : List UInt32), ∃ (i5_11 : Int), s = hsched_l2_E a0 i4_1 w3_19 i5_11 ∧ hsched_l2 n a0 i4_1 k_l1 fu w3_19 i5_11 = some r
def hsched_l1_E (a0 : List UInt8) (w3_13 : List UInt32) (i4_1 : Int) : S := ⟨[(1, kP 0 0), (2, kP 1 0), (3, kP 2 0), (4, kI i4_1)], [], [⟨.blk, 88, 1, 64, .b a0⟩, ⟨.blk, 112, 1, 64, .w (List.replicate 64 0)⟩, ⟨.blk, 112, 1, 64, .w w3_13⟩]⟩
abbrev hsched_l1_P (n : Nat) (a0 : List UInt8) (r : List UInt32) (fu : Nat) : S → Prop := fun s => ∃ (w3_13 : List UInt32), ∃ (i4_1 : Int), s = hsched_l1_E a0 w3_13 i4_1 ∧ hsched_l1 n a0 fu w3_13 i4_1 = some r
def hsched_R (r : List UInt32) : S := ⟨[(2, kP 0 0)], [], [⟨.blk, 112, 1, 64, .w r⟩]⟩
def hsched_ct (n : Nat) (r : List UInt32) : Ct := ctc (rGb 64).rd fun _ l0 => ct0 fun H => ([hsched n l0 = some r], shA H.length (.g 64 (.w r)), shH H.length [])
theorem hsched_ok (n : Nat) (r : List UInt32) : FnOk Tryd.prog Tr 81 (hsched_ct n r) := by
 refine fnok Tryd.func81 ?_
 refine HO_c (rGb 64) fun l0 hl0 => HO_0 tabO_gr (hsched_R r) [.cell 2 112] [] 54 Tryd.func81 fun w hG h => ?_
 unfold hsched at h
 have hT := tabO_gr
 refine Vrs hT [0, 1] ⟨[(1, kP 0 0), (2, kP 1 0)], [], [⟨.blk, 88, 1, 64, .b l0⟩, ⟨.blk, 112, 1, 64, .w (List.replicate 64 0)⟩]⟩ ?_
 refine Vrs hT [0, 1, 2] ⟨[(1, kP 0 0), (2, kP 1 0), (3, kP 2 0)], [], [⟨.blk, 88, 1, 64, .b l0⟩, ⟨.blk, 112, 1, 64, .w (List.replicate 64 0)⟩, ⟨.blk, 112, 1, 64, .w (List.replicate 64 0)⟩]⟩ ?_
 refine W_seq ?_
 refine Vrs hT [0, 1, 2] ⟨[(1, kP 0 0), (2, kP 1 0), (3, kP 2 0), (4, kI 0)], [], [⟨.blk, 88, 1, 64, .b l0⟩, ⟨.blk, 112, 1, 64, .w (List.replicate 64 0)⟩, ⟨.blk, 112, 1, 64, .w (List.replicate 64 0)⟩]⟩ ?_
 refine W_block ?_
 refine Vc [] [0, 1, 2] (hsched_l1_E l0 (List.replicate 64 0) 0) (W_lp ((hsched_l1_P n l0 r)) n ⟨_, _, rfl, h⟩ ?_)
 rintro fu_l1 _ ⟨w3_13, i4_1, rfl, h⟩
 cases fu_l1 with
 | zero => cases h
 | succ fu_l1 =>
  refine ⟨fu_l1, rfl, ?_⟩
  rw [hsched_l1] at h
  refine W_seq ?_
  refine Vrs hT [0, 1, 2] ⟨[(1, kP 0 0), (2, kP 1 0), (3, kP 2 0), (4, kI i4_1), (7, kB (decide (i4_1 < (64 : Int))))], [], [⟨.blk, 88, 1, 64, .b l0⟩, ⟨.blk, 112, 1, 64, .w (List.replicate 64 0)⟩, ⟨.blk, 112, 1, 64, .w w3_13⟩]⟩ ?_
  refine Vi ((decide (i4_1 < (64 : Int)))) (fun g29 => ?_) (fun g29 => ?_)
  ·replace h := bif_t h g29
   refine Vc [] [0, 1, 2] ⟨[(1, kP 0 0), (2, kP 1 0), (3, kP 2 0), (4, kI i4_1)], [], [⟨.blk, 88, 1, 64, .b l0⟩, ⟨.blk, 112, 1, 64, .w (List.replicate 64 0)⟩, ⟨.blk, 112, 1, 64, .w w3_13⟩]⟩ (W_skip ?_)
   refine W_join (hsched_j1_P n l0 i4_1 (hsched_l1 n l0 fu_l1) r) ?_ ?_
   ·rintro _ ⟨w3_18, rfl, h⟩
    unfold hsched_j1 at h
    obtain ⟨g1, h⟩ := gd_some h
    refine Vg hT fN [] [] [0, 1, 2] (hsched_l1_E l0 w3_18 (i4_1 + 1)) (aP g1 aN) ?_
    exact ⟨_, _, rfl, h⟩
   ·refine W_block ?_
    refine Vrs hT [0, 1, 2] ⟨[(1, kP 0 0), (2, kP 1 0), (3, kP 2 0), (4, kI i4_1), (11, kB (decide (i4_1 < (16 : Int))))], [], [⟨.blk, 88, 1, 64, .b l0⟩, ⟨.blk, 112, 1, 64, .w (List.replicate 64 0)⟩, ⟨.blk, 112, 1, 64, .w w3_13⟩]⟩ ?_
    refine Vi ((decide (i4_1 < (16 : Int)))) (fun g28 => ?_) (fun g28 => ?_)
    ·replace h := bif_t h g28
     refine Vrs hT [0, 1, 2] ⟨[(1, kP 0 0), (2, kP 1 0), (3, kP 2 0), (4, kI i4_1), (5, kI 0)], [], [⟨.blk, 88, 1, 64, .b l0⟩, ⟨.blk, 112, 1, 64, .w (List.replicate 64 0)⟩, ⟨.blk, 112, 1, 64, .w w3_13⟩]⟩ ?_
     refine W_block ?_
     refine Vc [] [0, 1, 2] (hsched_l2_E l0 i4_1 w3_13 0) (W_lp ((hsched_l2_P n l0 i4_1 (hsched_l1 n l0 fu_l1) r)) n ⟨_, _, rfl, h⟩ ?_)
     rintro fu_l2 _ ⟨w3_19, i5_11, rfl, h⟩
     cases fu_l2 with
     | zero => cases h
     | succ fu_l2 =>
      refine ⟨fu_l2, rfl, ?_⟩
      rw [hsched_l2] at h
      refine W_seq ?_
      refine Vrs hT [0, 1, 2] ⟨[(1, kP 0 0), (2, kP 1 0), (3, kP 2 0), (4, kI i4_1), (5, kI i5_11), (13, kB (decide (i5_11 < (4 : Int))))], [], [⟨.blk, 88, 1, 64, .b l0⟩, ⟨.blk, 112, 1, 64, .w (List.replicate 64 0)⟩, ⟨.blk, 112, 1, 64, .w w3_19⟩]⟩ ?_
      refine Vi ((decide (i5_11 < (4 : Int)))) (fun g11 => ?_) (fun g11 => ?_)
      ·replace h := bif_t h g11
       refine W_skip ?_
       refine W_seq ?_
       refine W_block ?_
       obtain ⟨g2, g3, g4, g5, g6, h⟩ := gd5 h
       obtain ⟨g7, g8, g9, h⟩ := gd3 h
       refine Vd hT fN 13 [] [(1, false), (2, false), (3, false), (4, false), (5, false), (16, false), (28, false)] [] [0, 1, 2] ⟨[(1, kP 0 0), (2, kP 1 0), (3, kP 2 0), (4, kI i4_1), (5, kI i5_11)], [], [⟨.blk, 88, 1, 64, .b l0⟩, ⟨.blk, 112, 1, 64, .w (List.replicate 64 0)⟩, ⟨.blk, 112, 1, 64, .w (w3_19.set i4_1.toNat (((w3_19.getD i4_1.toNat 0) * (256 : UInt32)) + ((l0.getD (((4 * i4_1) + i5_11).toNat) 0).toUInt32)))⟩]⟩ (aP g2 (aP g3 (aP g4 (aP g5 (aP g6 (aP g7 (aP g8 (aP g9 aN)))))))) ?_
       obtain ⟨g10, h⟩ := gd_some h
       refine Vg hT fN [] [] [0, 1, 2] (hsched_l2_E l0 i4_1 (w3_19.set i4_1.toNat (((w3_19.getD i4_1.toNat 0) * (256 : UInt32)) + ((l0.getD (((4 * i4_1) + i5_11).toNat) 0).toUInt32))) (i5_11 + 1)) (aP g10 aN) ?_
       exact ⟨_, _, rfl, h⟩
      ·replace h := bif_f h g11
       refine Vc [] [0, 1, 2] (hsched_j1_E l0 i4_1 w3_19) (W_exit ?_)
       exact ⟨_, rfl, h⟩
    ·replace h := bif_f h g28
     obtain ⟨g12, g13, g14, g15, g16, h⟩ := gd5 h
     obtain ⟨g17, h⟩ := gd_some h
     obtain ⟨r39_1, g18, h⟩ := bind_some' h
     obtain ⟨g19, g20, g21, g22, g23, h⟩ := gd5 h
     obtain ⟨g24, h⟩ := gd_some h
     obtain ⟨r50_1, g25, h⟩ := bind_some' h
     obtain ⟨g26, g27, h⟩ := gd2 h
     refine Vd hT (fT 9 (hmixed_ok n r39_1) (fT 20 (hmixed_ok n r50_1) fN)) 22 [] [(1, false), (2, false), (3, false), (4, false), (30, false), (51, false)] [] [0, 1, 2] (hsched_j1_E l0 i4_1 (w3_13.set i4_1.toNat ((((w3_13.getD ((i4_1 - 16).toNat) 0) + r39_1) + (w3_13.getD ((i4_1 - 7).toNat) 0)) + r50_1))) (aP g12 (aP g13 (aP g14 (aP g15 (aP g16 (aP g17 (aP g18 (aP g19 (aP g20 (aP g21 (aP g22 (aP g23 (aP g24 (aP g25 (aP g26 (aP g27 aN)))))))))))))))) ?_
     exact ⟨_, rfl, h⟩
  ·replace h := bif_f h g29
   refine Vc [] [1, 2] ⟨[(2, kP 0 0), (3, kP 1 0)], [], [⟨.blk, 112, 1, 64, .w (List.replicate 64 0)⟩, ⟨.blk, 112, 1, 64, .w w3_13⟩]⟩ (W_exit ?_)
   refine Vrs hT [0] ⟨[(2, kP 0 0)], [], [⟨.blk, 112, 1, 64, .w w3_13⟩]⟩ ?_
   refine Vc [] [0] (hsched_R w3_13) (W_ret ?_)
   exact ⟨.inl rfl, by cases h; rfl⟩
def hchoice_j1_E (a0 : UInt32) (a1 : UInt32) (a2 : UInt32) (x7_1 : UInt32) (i8_1 : Int) (x9_5 : UInt32) : S := ⟨[(0, kX a0), (1, kX a1), (2, kX a2), (7, kX x7_1), (8, kI i8_1), (9, kX x9_5)], [], []⟩
abbrev hchoice_j1_P (n : Nat) (a0 : UInt32) (a1 : UInt32) (a2 : UInt32) (x7_1 : UInt32) (i8_1 : Int) (k_l1 : UInt32 → Int → Option (UInt32)) (r : UInt32) : S → Prop := fun s => ∃ (x9_5 : UInt32), s = hchoice_j1_E a0 a1 a2 x7_1 i8_1 x9_5 ∧ hchoice_j1 n a0 a1 a2 x7_1 i8_1 k_l1 x9_5 = some r
def hchoice_l1_E (a0 : UInt32) (a1 : UInt32) (a2 : UInt32) (x7_1 : UInt32) (i8_1 : Int) : S := ⟨[(0, kX a0), (1, kX a1), (2, kX a2), (7, kX x7_1), (8, kI i8_1)], [], []⟩
abbrev hchoice_l1_P (n : Nat) (a0 : UInt32) (a1 : UInt32) (a2 : UInt32) (r : UInt32) (fu : Nat) : S → Prop := fun s => ∃ (x7_1 : UInt32), ∃ (i8_1 : Int), s = hchoice_l1_E a0 a1 a2 x7_1 i8_1 ∧ hchoice_l1 n a0 a1 a2 fu x7_1 i8_1 = some r
def hchoice_R (r : UInt32) : S := ⟨[(6, kX r)], [], []⟩
def hchoice_ct (n : Nat) (r : UInt32) : Ct := ctc rU32.rd fun _ l0 => ctc rU32.rd fun _ l1 => ctc rU32.rd fun _ l2 => ct0 fun H => ([hchoice n l0 l1 l2 = some r], shA H.length (kX r), shH H.length [])
theorem hchoice_ok (n : Nat) (r : UInt32) : FnOk Tryd.prog Tr 98 (hchoice_ct n r) := by
 refine fnok Tryd.func98 ?_
 refine HO_c rU32 fun l0 _ => HO_c rU32 fun l1 _ => HO_c rU32 fun l2 _ => HO_0 tabO_gr (hchoice_R r) [.tmp 6] [] 29 Tryd.func98 fun w hG h => ?_
 unfold hchoice at h
 have hT := tabO_gr
 refine Vrs hT [] ⟨[(0, kX l0), (1, kX l1), (2, kX l2)], [], []⟩ ?_
 refine Vrs hT [] ⟨[(0, kX l0), (1, kX l1), (2, kX l2), (7, kX 0)], [], []⟩ ?_
 refine W_seq ?_
 refine Vrs hT [] ⟨[(0, kX l0), (1, kX l1), (2, kX l2), (7, kX 0), (8, kI 0)], [], []⟩ ?_
 refine W_block ?_
 refine Vc [] [] (hchoice_l1_E l0 l1 l2 0 0) (W_lp ((hchoice_l1_P n l0 l1 l2 r)) n ⟨_, _, rfl, h⟩ ?_)
 rintro fu_l1 _ ⟨x7_1, i8_1, rfl, h⟩
 cases fu_l1 with
 | zero => cases h
 | succ fu_l1 =>
  refine ⟨fu_l1, rfl, ?_⟩
  rw [hchoice_l1] at h
  refine W_seq ?_
  refine Vrs hT [] ⟨[(0, kX l0), (1, kX l1), (2, kX l2), (7, kX x7_1), (8, kI i8_1), (11, kB (decide (i8_1 < (32 : Int))))], [], []⟩ ?_
  refine Vi ((decide (i8_1 < (32 : Int)))) (fun g6 => ?_) (fun g6 => ?_)
  ·replace h := bif_t h g6
   refine W_skip ?_
   refine W_seq ?_
   refine W_block ?_
   obtain ⟨r16_2, g1, h⟩ := bind_some' h
   refine Vgs hT (fT 2 (hbit_ok n r16_2) fN) [] [] [] ⟨[(0, kX l0), (1, kX l1), (2, kX l2), (7, kX x7_1), (8, kI i8_1), (9, kX r16_2)], [], []⟩ (aP g1 aN) ?_
   refine W_join (hchoice_j1_P n l0 l1 l2 x7_1 i8_1 (hchoice_l1 n l0 l1 l2 fu_l1) r) ?_ ?_
   ·rintro _ ⟨x9_5, rfl, h⟩
    unfold hchoice_j1 at h
    refine Vr hT [] ⟨[(0, kX l0), (1, kX l1), (2, kX l2), (7, kX ((x7_1 * (2 : UInt32)) + x9_5)), (8, kI i8_1)], [], []⟩ ?_
    obtain ⟨g2, h⟩ := gd_some h
    refine Vg hT fN [] [] [] (hchoice_l1_E l0 l1 l2 ((x7_1 * (2 : UInt32)) + x9_5) (i8_1 + 1)) (aP g2 aN) ?_
    exact ⟨_, _, rfl, h⟩
   ·refine W_seq ?_
    obtain ⟨r19_2, g3, h⟩ := bind_some' h
    refine Vg hT (fT 2 (hbit_ok n r19_2) fN) [] [] [] ⟨[(0, kX l0), (1, kX l1), (2, kX l2), (7, kX x7_1), (8, kI i8_1), (9, kX r16_2), (20, kB (r19_2 == 1))], [], []⟩ (aP g3 aN) ?_
    refine Vi ((r19_2 == 1)) (fun g5 => ?_) (fun g5 => ?_)
    ·replace h := bif_t h g5
     obtain ⟨r23_2, g4, h⟩ := bind_some' h
     refine Vg hT (fT 2 (hbit_ok n r23_2) fN) [] [] [] (hchoice_j1_E l0 l1 l2 x7_1 i8_1 r23_2) (aP g4 aN) ?_
     exact ⟨_, rfl, h⟩
    ·replace h := bif_f h g5
     refine Vc [] [] (hchoice_j1_E l0 l1 l2 x7_1 i8_1 r16_2) (W_skip ?_)
     exact ⟨_, rfl, h⟩
  ·replace h := bif_f h g6
   refine Vc [] [] ⟨[(7, kX x7_1)], [], []⟩ (W_exit ?_)
   refine Vrs hT [] ⟨[(6, kX x7_1)], [], []⟩ ?_
   refine Vc [] [] (hchoice_R x7_1) (W_ret ?_)
   exact ⟨.inl rfl, by cases h; rfl⟩
def hmaj_l1_E (a0 : UInt32) (a1 : UInt32) (a2 : UInt32) (x7_1 : UInt32) (i8_1 : Int) : S := ⟨[(0, kX a0), (1, kX a1), (2, kX a2), (7, kX x7_1), (8, kI i8_1)], [], []⟩
abbrev hmaj_l1_P (n : Nat) (a0 : UInt32) (a1 : UInt32) (a2 : UInt32) (r : UInt32) (fu : Nat) : S → Prop := fun s => ∃ (x7_1 : UInt32), ∃ (i8_1 : Int), s = hmaj_l1_E a0 a1 a2 x7_1 i8_1 ∧ hmaj_l1 n a0 a1 a2 fu x7_1 i8_1 = some r
def hmaj_R (r : UInt32) : S := ⟨[(6, kX r)], [], []⟩
def hmaj_ct (n : Nat) (r : UInt32) : Ct := ctc rU32.rd fun _ l0 => ctc rU32.rd fun _ l1 => ctc rU32.rd fun _ l2 => ct0 fun H => ([hmaj n l0 l1 l2 = some r], shA H.length (kX r), shH H.length [])
theorem hmaj_ok (n : Nat) (r : UInt32) : FnOk Tryd.prog Tr 99 (hmaj_ct n r) := by
 refine fnok Tryd.func99 ?_
 refine HO_c rU32 fun l0 _ => HO_c rU32 fun l1 _ => HO_c rU32 fun l2 _ => HO_0 tabO_gr (hmaj_R r) [.tmp 6] [] 29 Tryd.func99 fun w hG h => ?_
 unfold hmaj at h
 have hT := tabO_gr
 refine Vrs hT [] ⟨[(0, kX l0), (1, kX l1), (2, kX l2)], [], []⟩ ?_
 refine Vrs hT [] ⟨[(0, kX l0), (1, kX l1), (2, kX l2), (7, kX 0)], [], []⟩ ?_
 refine W_seq ?_
 refine Vrs hT [] ⟨[(0, kX l0), (1, kX l1), (2, kX l2), (7, kX 0), (8, kI 0)], [], []⟩ ?_
 refine W_block ?_
 refine Vc [] [] (hmaj_l1_E l0 l1 l2 0 0) (W_lp ((hmaj_l1_P n l0 l1 l2 r)) n ⟨_, _, rfl, h⟩ ?_)
 rintro fu_l1 _ ⟨x7_1, i8_1, rfl, h⟩
 cases fu_l1 with
 | zero => cases h
 | succ fu_l1 =>
  refine ⟨fu_l1, rfl, ?_⟩
  rw [hmaj_l1] at h
  refine W_seq ?_
  refine Vrs hT [] ⟨[(0, kX l0), (1, kX l1), (2, kX l2), (7, kX x7_1), (8, kI i8_1), (10, kB (decide (i8_1 < (32 : Int))))], [], []⟩ ?_
  refine Vi ((decide (i8_1 < (32 : Int)))) (fun g6 => ?_) (fun g6 => ?_)
  ·replace h := bif_t h g6
   refine W_skip ?_
   refine W_seq ?_
   refine W_block ?_
   obtain ⟨r17_2, g1, h⟩ := bind_some' h
   obtain ⟨r20_2, g2, h⟩ := bind_some' h
   obtain ⟨r24_2, g3, h⟩ := bind_some' h
   obtain ⟨g4, h⟩ := gd_some h
   refine Vg hT (fT 4 (hbit_ok n r17_2) (fT 7 (hbit_ok n r20_2) (fT 11 (hbit_ok n r24_2) fN))) [] [] [] ⟨[(0, kX l0), (1, kX l1), (2, kX l2), (7, kX ((x7_1 * (2 : UInt32)) + (((r17_2 + r20_2) + r24_2) / (2 : UInt32)))), (8, kI i8_1)], [], []⟩ (aP g1 (aP g2 (aP g3 (aP g4 aN)))) ?_
   obtain ⟨g5, h⟩ := gd_some h
   refine Vg hT fN [] [] [] (hmaj_l1_E l0 l1 l2 ((x7_1 * (2 : UInt32)) + (((r17_2 + r20_2) + r24_2) / (2 : UInt32))) (i8_1 + 1)) (aP g5 aN) ?_
   exact ⟨_, _, rfl, h⟩
  ·replace h := bif_f h g6
   refine Vc [] [] ⟨[(7, kX x7_1)], [], []⟩ (W_exit ?_)
   refine Vrs hT [] ⟨[(6, kX x7_1)], [], []⟩ ?_
   refine Vc [] [] (hmaj_R x7_1) (W_ret ?_)
   exact ⟨.inl rfl, by cases h; rfl⟩
def hround_R (r : List UInt32) : S := ⟨[(4, kP 0 0)], [], [⟨.blk, 63, 1, 8, .w r⟩]⟩
def hround_ct (n : Nat) (r : List UInt32) : Ct := ctc (rGw 8).rd fun _ l0 => ctc rU32.rd fun _ l1 => ct0 fun H => ([hround n l0 l1 = some r], shA H.length (.g 8 (.w r)), shH H.length [])
theorem hround_ok (n : Nat) (r : List UInt32) : FnOk Tryd.prog Tr 82 (hround_ct n r) := by
 refine fnok Tryd.func82 ?_
 refine HO_c (rGw 8) fun l0 hl0 => HO_c rU32 fun l1 _ => HO_0 tabO_gr (hround_R r) [.cell 4 63] [] 54 Tryd.func82 fun w hG h => ?_
 unfold hround at h
 have hT := tabO_gr
 refine Vrs hT [0, 1] ⟨[(1, kX l1), (2, kP 0 0), (4, kP 1 0)], [], [⟨.blk, 63, 1, 8, .w l0⟩, ⟨.blk, 63, 1, 8, .w (List.replicate 8 0)⟩]⟩ ?_
 obtain ⟨g1, g2, g3, g4, h⟩ := gd4 h
 obtain ⟨r11, g5, h⟩ := bind_some' h
 obtain ⟨g6, g7, g8, g9, g10, h⟩ := gd5 h
 obtain ⟨g11, h⟩ := gd_some h
 obtain ⟨r19, g12, h⟩ := bind_some' h
 refine Vds hT (fT 4 (hmixed_ok n r11) (fT 12 (hchoice_ok n r19) fN)) 15 [] [(2, false), (4, false), (20, false), (21, false)] [] [0, 1] ⟨[(2, kP 0 0), (4, kP 1 0), (5, kX ((((l0.getD 7 0) + r11) + r19) + l1))], [], [⟨.blk, 63, 1, 8, .w l0⟩, ⟨.blk, 63, 1, 8, .w (List.replicate 8 0)⟩]⟩ (aP g1 (aP g2 (aP g3 (aP g4 (aP g5 (aP g6 (aP g7 (aP g8 (aP g9 (aP g10 (aP g11 (aP g12 aN)))))))))))) ?_
 obtain ⟨g13, g14, h⟩ := gd2 h
 obtain ⟨r26, g15, h⟩ := bind_some' h
 obtain ⟨g16, g17, g18, g19, g20, h⟩ := gd5 h
 obtain ⟨g21, h⟩ := gd_some h
 obtain ⟨r34, g22, h⟩ := bind_some' h
 refine Vds hT (fT 3 (hmixed_ok n r26) (fT 11 (hmaj_ok n r34) fN)) 12 [] [(2, false), (4, false), (5, false), (27, false), (34, false)] [] [0, 1] ⟨[(2, kP 0 0), (4, kP 1 0), (5, kX ((((l0.getD 7 0) + r11) + r19) + l1)), (6, kX ((((((l0.getD 7 0) + r11) + r19) + l1) + r26) + r34))], [], [⟨.blk, 63, 1, 8, .w l0⟩, ⟨.blk, 63, 1, 8, .w (List.replicate 8 0)⟩]⟩ (aP g13 (aP g14 (aP g15 (aP g16 (aP g17 (aP g18 (aP g19 (aP g20 (aP g21 (aP g22 aN)))))))))) ?_
 obtain ⟨g23, g24, g25, g26, g27, h⟩ := gd5 h
 obtain ⟨g28, g29, g30, g31, g32, h⟩ := gd5 h
 obtain ⟨g33, g34, g35, g36, h⟩ := gd4 h
 refine Vgs hT fN [] [] [1] ⟨[(4, kP 0 0)], [], [⟨.blk, 63, 1, 8, .w [((((((l0.getD 7 0) + r11) + r19) + l1) + r26) + r34), (l0.getD 0 0), (l0.getD 1 0), (l0.getD 2 0), ((l0.getD 3 0) + ((((l0.getD 7 0) + r11) + r19) + l1)), (l0.getD 4 0), (l0.getD 5 0), (l0.getD 6 0)]⟩]⟩ (aP g23 (aP g24 (aP g25 (aP g26 (aP g27 (aP g28 (aP g29 (aP g30 (aP g31 (aP g32 (aP g33 (aP g34 (aP g35 (aP g36 aN)))))))))))))) ?_
 refine Vc [] [0] (hround_R [((((((l0.getD 7 0) + r11) + r19) + l1) + r26) + r34), (l0.getD 0 0), (l0.getD 1 0), (l0.getD 2 0), ((l0.getD 3 0) + ((((l0.getD 7 0) + r11) + r19) + l1)), (l0.getD 4 0), (l0.getD 5 0), (l0.getD 6 0)]) (W_ret ?_)
 exact ⟨.inl rfl, by cases h; rfl⟩
def hpress_l2_E (a1 : List UInt32) (w8_3 : List UInt32) (i10_1 : Int) : S := ⟨[(4, kP 0 0), (6, kP 1 0), (8, kP 2 0), (10, kI i10_1)], [], [⟨.blk, 63, 1, 8, .w a1⟩, ⟨.blk, 63, 1, 8, .w (List.replicate 8 0)⟩, ⟨.blk, 63, 1, 8, .w w8_3⟩]⟩
abbrev hpress_l2_P (n : Nat) (a1 : List UInt32) (r : List UInt32) (fu : Nat) : S → Prop := fun s => ∃ (w8_3 : List UInt32), ∃ (i10_1 : Int), s = hpress_l2_E a1 w8_3 i10_1 ∧ hpress_l2 n a1 fu w8_3 i10_1 = some r
def hpress_l1_E (a0 : List UInt32) (a1 : List UInt32) (r12 : List UInt32) (w8_2 : List UInt32) (i9_1 : Int) : S := ⟨[(0, kH 0), (4, kP 1 0), (6, kP 2 0), (7, kP 3 0), (8, kP 4 0), (9, kI i9_1)], [], [ow 55 a0, ⟨.blk, 63, 1, 8, .w a1⟩, ⟨.blk, 63, 1, 8, .w (List.replicate 8 0)⟩, ⟨.blk, 112, 1, 64, .w r12⟩, ⟨.blk, 63, 1, 8, .w w8_2⟩]⟩
abbrev hpress_l1_P (n : Nat) (a0 : List UInt32) (a1 : List UInt32) (r12 : List UInt32) (r : List UInt32) (fu : Nat) : S → Prop := fun s => ∃ (w8_2 : List UInt32), ∃ (i9_1 : Int), s = hpress_l1_E a0 a1 r12 w8_2 i9_1 ∧ hpress_l1 n a0 a1 r12 fu w8_2 i9_1 = some r
def hpress_R (r : List UInt32) : S := ⟨[(6, kP 0 0)], [], [⟨.blk, 63, 1, 8, .w r⟩]⟩
def hpress_ct (n : Nat) (r : List UInt32) : Ct := ctc (rW 55).rd fun _ l0 => ctc (rGw 8).rd fun _ l1 => ctc (rGb 64).rd fun _ l2 => ct0 fun H => ([hpress n l0 l1 l2 = some r], shA H.length (.g 8 (.w r)), shH H.length [])
theorem hpress_ok (n : Nat) (r : List UInt32) : FnOk Tryd.prog Tr 60 (hpress_ct n r) := by
 refine fnok Tryd.func60 ?_
 refine HO_c (rW 55) fun l0 _ => HO_c (rGw 8) fun l1 hl1 => HO_c (rGb 64) fun l2 hl2 => HO_0 tabO_gr (hpress_R r) [.cell 6 63] [] 42 Tryd.func60 fun w hG h => ?_
 unfold hpress at h
 have hT := tabO_gr
 refine Vrs hT [0, 1, 2, 3] ⟨[(0, kH 0), (4, kP 1 0), (5, kP 2 0), (6, kP 3 0)], [], [ow 55 l0, ⟨.blk, 63, 1, 8, .w l1⟩, ⟨.blk, 88, 1, 64, .b l2⟩, ⟨.blk, 63, 1, 8, .w (List.replicate 8 0)⟩]⟩ ?_
 obtain ⟨r12, g1, h⟩ := bind_some' h
 refine Vgs hT (fT 1 (hsched_ok n r12) fN) [] [] [0, 1, 3, 4] ⟨[(0, kH 0), (4, kP 1 0), (6, kP 2 0), (7, kP 3 0)], [], [ow 55 l0, ⟨.blk, 63, 1, 8, .w l1⟩, ⟨.blk, 63, 1, 8, .w (List.replicate 8 0)⟩, ⟨.blk, 112, 1, 64, .w r12⟩]⟩ (aP g1 aN) ?_
 refine Vrs hT [0, 1, 2, 3, 4] ⟨[(0, kH 0), (4, kP 1 0), (6, kP 2 0), (7, kP 3 0), (8, kP 4 0)], [], [ow 55 l0, ⟨.blk, 63, 1, 8, .w l1⟩, ⟨.blk, 63, 1, 8, .w (List.replicate 8 0)⟩, ⟨.blk, 112, 1, 64, .w r12⟩, ⟨.blk, 63, 1, 8, .w l1⟩]⟩ ?_
 refine W_seq ?_
 refine Vrs hT [0, 1, 2, 3, 4] ⟨[(0, kH 0), (4, kP 1 0), (6, kP 2 0), (7, kP 3 0), (8, kP 4 0), (9, kI 0)], [], [ow 55 l0, ⟨.blk, 63, 1, 8, .w l1⟩, ⟨.blk, 63, 1, 8, .w (List.replicate 8 0)⟩, ⟨.blk, 112, 1, 64, .w r12⟩, ⟨.blk, 63, 1, 8, .w l1⟩]⟩ ?_
 refine W_block ?_
 refine Vc [] [0, 1, 2, 3, 4] (hpress_l1_E l0 l1 r12 l1 0) (W_lp ((hpress_l1_P n l0 l1 r12 r)) n ⟨_, _, rfl, h⟩ ?_)
 rintro fu_l1 _ ⟨w8_2, i9_1, rfl, h⟩
 cases fu_l1 with
 | zero => cases h
 | succ fu_l1 =>
  refine ⟨fu_l1, rfl, ?_⟩
  rw [hpress_l1] at h
  refine W_seq ?_
  refine Vrs hT [0, 1, 2, 3, 4] ⟨[(0, kH 0), (4, kP 1 0), (6, kP 2 0), (7, kP 3 0), (8, kP 4 0), (9, kI i9_1), (15, kB (decide (i9_1 < (64 : Int))))], [], [ow 55 l0, ⟨.blk, 63, 1, 8, .w l1⟩, ⟨.blk, 63, 1, 8, .w (List.replicate 8 0)⟩, ⟨.blk, 112, 1, 64, .w r12⟩, ⟨.blk, 63, 1, 8, .w w8_2⟩]⟩ ?_
  refine Vi ((decide (i9_1 < (64 : Int)))) (fun g16 => ?_) (fun g16 => ?_)
  ·replace h := bif_t h g16
   refine W_skip ?_
   refine W_seq ?_
   refine W_block ?_
   obtain ⟨g2, g3, g4, g5, h⟩ := gd4 h
   obtain ⟨r27_2, g6, h⟩ := bind_some' h
   refine Vd hT (fT 9 (hround_ok n r27_2) fN) 9 [] [(0, false), (4, false), (6, false), (7, false), (8, false), (9, false), (18, false), (26, false)] [] [0, 1, 2, 3, 4] ⟨[(0, kH 0), (4, kP 1 0), (6, kP 2 0), (7, kP 3 0), (8, kP 4 0), (9, kI i9_1)], [], [ow 55 l0, ⟨.blk, 63, 1, 8, .w l1⟩, ⟨.blk, 63, 1, 8, .w (List.replicate 8 0)⟩, ⟨.blk, 112, 1, 64, .w r12⟩, ⟨.blk, 63, 1, 8, .w r27_2⟩]⟩ (aP g2 (aP g3 (aP g4 (aP g5 (aP g6 aN))))) ?_
   obtain ⟨g7, h⟩ := gd_some h
   refine Vg hT fN [] [] [0, 1, 2, 3, 4] (hpress_l1_E l0 l1 r12 r27_2 (i9_1 + 1)) (aP g7 aN) ?_
   exact ⟨_, _, rfl, h⟩
  ·replace h := bif_f h g16
   refine Vc [] [1, 2, 4] ⟨[(4, kP 0 0), (6, kP 1 0), (8, kP 2 0)], [], [⟨.blk, 63, 1, 8, .w l1⟩, ⟨.blk, 63, 1, 8, .w (List.replicate 8 0)⟩, ⟨.blk, 63, 1, 8, .w w8_2⟩]⟩ (W_exit ?_)
   refine W_seq ?_
   refine Vrs hT [0, 1, 2] ⟨[(4, kP 0 0), (6, kP 1 0), (8, kP 2 0), (10, kI 0)], [], [⟨.blk, 63, 1, 8, .w l1⟩, ⟨.blk, 63, 1, 8, .w (List.replicate 8 0)⟩, ⟨.blk, 63, 1, 8, .w w8_2⟩]⟩ ?_
   refine W_block ?_
   refine Vc [] [0, 1, 2] (hpress_l2_E l1 w8_2 0) (W_lp ((hpress_l2_P n l1 r)) n ⟨_, _, rfl, h⟩ ?_)
   rintro fu_l2 _ ⟨w8_3, i10_1, rfl, h⟩
   cases fu_l2 with
   | zero => cases h
   | succ fu_l2 =>
    refine ⟨fu_l2, rfl, ?_⟩
    rw [hpress_l2] at h
    refine W_seq ?_
    refine Vrs hT [0, 1, 2] ⟨[(4, kP 0 0), (6, kP 1 0), (8, kP 2 0), (10, kI i10_1), (29, kB (decide (i10_1 < (8 : Int))))], [], [⟨.blk, 63, 1, 8, .w l1⟩, ⟨.blk, 63, 1, 8, .w (List.replicate 8 0)⟩, ⟨.blk, 63, 1, 8, .w w8_3⟩]⟩ ?_
    refine Vi ((decide (i10_1 < (8 : Int)))) (fun g15 => ?_) (fun g15 => ?_)
    ·replace h := bif_t h g15
     refine W_skip ?_
     refine W_seq ?_
     refine W_block ?_
     obtain ⟨g8, g9, g10, g11, g12, h⟩ := gd5 h
     obtain ⟨g13, h⟩ := gd_some h
     refine Vd hT fN 8 [] [(4, false), (6, false), (8, false), (10, false), (32, false), (39, false)] [] [0, 1, 2] ⟨[(4, kP 0 0), (6, kP 1 0), (8, kP 2 0), (10, kI i10_1)], [], [⟨.blk, 63, 1, 8, .w l1⟩, ⟨.blk, 63, 1, 8, .w (List.replicate 8 0)⟩, ⟨.blk, 63, 1, 8, .w (w8_3.set i10_1.toNat ((w8_3.getD i10_1.toNat 0) + (l1.getD i10_1.toNat 0)))⟩]⟩ (aP g8 (aP g9 (aP g10 (aP g11 (aP g12 (aP g13 aN)))))) ?_
     obtain ⟨g14, h⟩ := gd_some h
     refine Vg hT fN [] [] [0, 1, 2] (hpress_l2_E l1 (w8_3.set i10_1.toNat ((w8_3.getD i10_1.toNat 0) + (l1.getD i10_1.toNat 0))) (i10_1 + 1)) (aP g14 aN) ?_
     exact ⟨_, _, rfl, h⟩
    ·replace h := bif_f h g15
     refine Vc [] [1, 2] ⟨[(6, kP 0 0), (8, kP 1 0)], [], [⟨.blk, 63, 1, 8, .w (List.replicate 8 0)⟩, ⟨.blk, 63, 1, 8, .w w8_3⟩]⟩ (W_exit ?_)
     refine Vrs hT [0] ⟨[(6, kP 0 0)], [], [⟨.blk, 63, 1, 8, .w w8_3⟩]⟩ ?_
     refine Vc [] [0] (hpress_R w8_3) (W_ret ?_)
     exact ⟨.inl rfl, by cases h; rfl⟩
def htail_l1_E (l3_4 : List UInt8) (l4_1 : List UInt8) (i5_1 : Int) (i6_1 : Int) : S := ⟨[(3, kH 0), (4, kH 1), (5, kI i5_1), (6, kI i6_1)], [], [nb 5 l3_4, ⟨.row, 5, 1, 8, .b l4_1⟩]⟩
abbrev htail_l1_P (n : Nat) (l3_4 : List UInt8) (r : List UInt8) (fu : Nat) : S → Prop := fun s => ∃ (l4_1 : List UInt8), ∃ (i5_1 : Int), ∃ (i6_1 : Int), s = htail_l1_E l3_4 l4_1 i5_1 i6_1 ∧ htail_l1 n l3_4 fu l4_1 i5_1 i6_1 = some r
def htail_j1_E (a0 : Int) (l3_4 : List UInt8) : S := ⟨[(0, kI a0), (3, kH 0)], [], [nb 5 l3_4]⟩
abbrev htail_j1_P (n : Nat) (a0 : Int) (r : List UInt8) : S → Prop := fun s => ∃ (l3_4 : List UInt8), s = htail_j1_E a0 l3_4 ∧ htail_j1 n a0 l3_4 = some r
def htail_l2_E (a0 : Int) (l3_5 : List UInt8) : S := ⟨[(0, kI a0), (3, kH 0)], [], [nb 5 l3_5]⟩
abbrev htail_l2_P (n : Nat) (a0 : Int) (r : List UInt8) (fu : Nat) : S → Prop := fun s => ∃ (l3_5 : List UInt8), s = htail_l2_E a0 l3_5 ∧ htail_l2 n a0 fu l3_5 = some r
def htail_R (r : List UInt8) : S := ⟨[(2, kH 0)], [], [nb 5 r]⟩
def htail_ct (n : Nat) (r : List UInt8) : Ct := ctc rI.rd fun _ l0 => ct0 fun H => ([htail n l0 = some r], shA H.length (kH 0), shH H.length [nb 5 r])
theorem htail_ok (n : Nat) (r : List UInt8) : FnOk Tryd.prog Tr 59 (htail_ct n r) := by
 refine fnok Tryd.func59 ?_
 refine HO_c rI fun l0 _ => HO_0 tabO_gr (htail_R r) [.tmp 2] [0] 36 Tryd.func59 fun w hG h => ?_
 unfold htail at h
 have hT := tabO_gr
 refine Vrs hT [] ⟨[(0, kI l0)], [], []⟩ ?_
 refine Vrs hT [0] ⟨[(0, kI l0), (3, kH 0)], [], [⟨.row, 5, 1, 1, .b [128]⟩]⟩ ?_
 refine W_join (htail_j1_P n l0 r) ?_ ?_
 ·rintro _ ⟨l3_4, rfl, h⟩
  unfold htail_j1 at h
  obtain ⟨g1, g2, g3, h⟩ := gd3 h
  refine Vgs hT fN [] [] [0, 1] ⟨[(0, kI l0), (3, kH 0), (4, kH 1)], [], [nb 5 l3_4, ⟨.row, 5, 1, 8, .b (List.replicate 8 0)⟩]⟩ (aP g1 (aP g2 (aP g3 aN))) ?_
  obtain ⟨g4, h⟩ := gd_some h
  refine Vgs hT fN [] [] [0, 1] ⟨[(3, kH 0), (4, kH 1), (5, kI (8 * l0))], [], [nb 5 l3_4, ⟨.row, 5, 1, 8, .b (List.replicate 8 0)⟩]⟩ (aP g4 aN) ?_
  refine W_seq ?_
  refine Vrs hT [0, 1] ⟨[(3, kH 0), (4, kH 1), (5, kI (8 * l0)), (6, kI 7)], [], [nb 5 l3_4, ⟨.row, 5, 1, 8, .b (List.replicate 8 0)⟩]⟩ ?_
  refine W_block ?_
  refine Vc [] [0, 1] (htail_l1_E l3_4 (List.replicate 8 0) (8 * l0) 7) (W_lp ((htail_l1_P n l3_4 r)) n ⟨_, _, _, rfl, h⟩ ?_)
  rintro fu_l1 _ ⟨l4_1, i5_1, i6_1, rfl, h⟩
  cases fu_l1 with
  | zero => cases h
  | succ fu_l1 =>
   refine ⟨fu_l1, rfl, ?_⟩
   rw [htail_l1] at h
   refine W_seq ?_
   refine Vrs hT [0, 1] ⟨[(3, kH 0), (4, kH 1), (5, kI i5_1), (6, kI i6_1), (22, kB (decide ((0 : Int) ≤ i6_1)))], [], [nb 5 l3_4, ⟨.row, 5, 1, 8, .b l4_1⟩]⟩ ?_
   refine Vi ((decide ((0 : Int) ≤ i6_1))) (fun g12 => ?_) (fun g12 => ?_)
   ·replace h := bif_t h g12
    refine W_skip ?_
    refine W_seq ?_
    refine W_block ?_
    obtain ⟨g5, g6, g7, h⟩ := gd3 h
    refine Vgs hT fN [] [] [0, 1] ⟨[(3, kH 0), (4, kH 1), (5, kI i5_1), (6, kI i6_1)], [], [nb 5 l3_4, ⟨.row, 5, 1, 8, .b (l4_1.set i6_1.toNat (UInt8.ofInt (Int.tmod i5_1 256)))⟩]⟩ (aP g5 (aP g6 (aP g7 aN))) ?_
    obtain ⟨g8, g9, h⟩ := gd2 h
    refine Vg hT fN [] [] [0, 1] ⟨[(3, kH 0), (4, kH 1), (5, kI (Int.tdiv i5_1 256)), (6, kI i6_1)], [], [nb 5 l3_4, ⟨.row, 5, 1, 8, .b (l4_1.set i6_1.toNat (UInt8.ofInt (Int.tmod i5_1 256)))⟩]⟩ (aP g8 (aP g9 aN)) ?_
    obtain ⟨g10, h⟩ := gd_some h
    refine Vg hT fN [] [] [0, 1] (htail_l1_E l3_4 (l4_1.set i6_1.toNat (UInt8.ofInt (Int.tmod i5_1 256))) (Int.tdiv i5_1 256) (i6_1 - 1)) (aP g10 aN) ?_
    exact ⟨_, _, _, rfl, h⟩
   ·replace h := bif_f h g12
    refine Vc [] [0, 1] ⟨[(3, kH 0), (4, kH 1)], [], [nb 5 l3_4, ⟨.row, 5, 1, 8, .b l4_1⟩]⟩ (W_exit ?_)
    obtain ⟨g11, h⟩ := gd_some h
    refine Vgs hT fN [] [] [2] ⟨[(2, kH 0)], [], [nb 5 (l3_4 ++ l4_1)]⟩ (aP g11 aN) ?_
    refine Vc [] [0] (htail_R (l3_4 ++ l4_1)) (W_ret ?_)
    exact ⟨.inl rfl, by cases h; rfl⟩
 ·refine W_block ?_
  refine Vc [] [0] (htail_l2_E l0 [128]) (W_lp ((htail_l2_P n l0 r)) n ⟨_, rfl, h⟩ ?_)
  rintro fu_l2 _ ⟨l3_5, rfl, h⟩
  cases fu_l2 with
  | zero => cases h
  | succ fu_l2 =>
   refine ⟨fu_l2, rfl, ?_⟩
   rw [htail_l2] at h
   refine W_seq ?_
   obtain ⟨g13, g14, g15, h⟩ := gd3 h
   refine Vgs hT fN [] [] [0] ⟨[(0, kI l0), (3, kH 0), (14, kB ((Int.tmod ((l0 + ((l3_5.length : Nat) : Int)) + 8) 64) != 0))], [], [nb 5 l3_5]⟩ (aP g13 (aP g14 (aP g15 aN))) ?_
   refine Vi (((Int.tmod ((l0 + ((l3_5.length : Nat) : Int)) + 8) 64) != 0)) (fun g17 => ?_) (fun g17 => ?_)
   ·replace h := bif_t h g17
    refine W_skip ?_
    refine W_block ?_
    obtain ⟨g16, h⟩ := gd_some h
    refine Vg hT fN [] [] [2] (htail_l2_E l0 (l3_5 ++ [0])) (aP g16 aN) ?_
    exact ⟨_, rfl, h⟩
   ·replace h := bif_f h g17
    refine Vc [] [0] (htail_j1_E l0 l3_5) (W_exit ?_)
    exact ⟨_, rfl, h⟩
def rprimes_j1_E (a0 : Int) (y4_1 : UInt64) (q3_5 : List UInt64) : S := ⟨[(0, kI a0), (3, kH 0), (4, kY y4_1)], [], [nq 96 q3_5]⟩
abbrev rprimes_j1_P (n : Nat) (a0 : Int) (y4_1 : UInt64) (k_l1 : (List UInt64) → UInt64 → Option (List UInt64)) (r : List UInt64) : S → Prop := fun s => ∃ (q3_5 : List UInt64), s = rprimes_j1_E a0 y4_1 q3_5 ∧ rprimes_j1 n a0 y4_1 k_l1 q3_5 = some r
def rprimes_l2_E (a0 : Int) (q3_3 : List UInt64) (y4_1 : UInt64) (p5_7 : Bool) (i6_7 : Int) : S := ⟨[(0, kI a0), (3, kH 0), (4, kY y4_1), (5, kB p5_7), (6, kI i6_7)], [], [nq 96 q3_3]⟩
abbrev rprimes_l2_P (n : Nat) (a0 : Int) (q3_3 : List UInt64) (y4_1 : UInt64) (k_l1 : (List UInt64) → UInt64 → Option (List UInt64)) (r : List UInt64) (fu : Nat) : S → Prop := fun s => ∃ (p5_7 : Bool), ∃ (i6_7 : Int), s = rprimes_l2_E a0 q3_3 y4_1 p5_7 i6_7 ∧ rprimes_l2 n a0 q3_3 y4_1 k_l1 fu p5_7 i6_7 = some r
def rprimes_l1_E (a0 : Int) (q3_3 : List UInt64) (y4_1 : UInt64) : S := ⟨[(0, kI a0), (3, kH 0), (4, kY y4_1)], [], [nq 96 q3_3]⟩
abbrev rprimes_l1_P (n : Nat) (a0 : Int) (r : List UInt64) (fu : Nat) : S → Prop := fun s => ∃ (q3_3 : List UInt64), ∃ (y4_1 : UInt64), s = rprimes_l1_E a0 q3_3 y4_1 ∧ rprimes_l1 n a0 fu q3_3 y4_1 = some r
def rprimes_R (r : List UInt64) : S := ⟨[(2, kH 0)], [], [nq 96 r]⟩
def rprimes_ct (n : Nat) (r : List UInt64) : Ct := ctc rI.rd fun _ l0 => ct0 fun H => ([rprimes n l0 = some r], shA H.length (kH 0), shH H.length [nq 96 r])
theorem rprimes_ok (n : Nat) (r : List UInt64) : FnOk Tryd.prog Tr 79 (rprimes_ct n r) := by
 refine fnok Tryd.func79 ?_
 refine HO_c rI fun l0 _ => HO_0 tabO_gr (rprimes_R r) [.tmp 2] [0] 35 Tryd.func79 fun w hG h => ?_
 unfold rprimes at h
 have hT := tabO_gr
 refine Vrs hT [] ⟨[(0, kI l0)], [], []⟩ ?_
 refine Vrs hT [] ⟨[(0, kI l0), (3, .c (.nils))], [], []⟩ ?_
 refine W_seq ?_
 refine Vrs hT [] ⟨[(0, kI l0), (3, .c (.nils)), (4, kY 2)], [], []⟩ ?_
 refine W_block ?_
 refine Vc [.nil 3 96 1 (.q [])] [0] (rprimes_l1_E l0 [] 2) (W_lp ((rprimes_l1_P n l0 r)) n ⟨_, _, rfl, h⟩ ?_)
 rintro fu_l1 _ ⟨q3_3, y4_1, rfl, h⟩
 cases fu_l1 with
 | zero => cases h
 | succ fu_l1 =>
  refine ⟨fu_l1, rfl, ?_⟩
  rw [rprimes_l1] at h
  refine W_seq ?_
  refine Vrs hT [0] ⟨[(0, kI l0), (3, kH 0), (4, kY y4_1), (10, kB (decide (((q3_3.length : Nat) : Int) < l0)))], [], [nq 96 q3_3]⟩ ?_
  refine Vi ((decide (((q3_3.length : Nat) : Int) < l0))) (fun g10 => ?_) (fun g10 => ?_)
  ·replace h := bif_t h g10
   refine Vc [] [0] ⟨[(0, kI l0), (3, kH 0), (4, kY y4_1)], [], [nq 96 q3_3]⟩ (W_skip ?_)
   refine W_join (rprimes_j1_P n l0 y4_1 (rprimes_l1 n l0 fu_l1) r) ?_ ?_
   ·rintro _ ⟨q3_5, rfl, h⟩
    unfold rprimes_j1 at h
    refine Vr hT [0] (rprimes_l1_E l0 q3_5 (y4_1 + (1 : UInt64))) ?_
    exact ⟨_, _, rfl, h⟩
   ·refine W_block ?_
    refine Vrs hT [0] ⟨[(0, kI l0), (3, kH 0), (4, kY y4_1), (5, kB true)], [], [nq 96 q3_3]⟩ ?_
    refine W_seq ?_
    refine Vrs hT [0] ⟨[(0, kI l0), (3, kH 0), (4, kY y4_1), (5, kB true), (6, kI 0)], [], [nq 96 q3_3]⟩ ?_
    refine W_block ?_
    refine Vc [] [0] (rprimes_l2_E l0 q3_3 y4_1 true 0) (W_lp ((rprimes_l2_P n l0 q3_3 y4_1 (rprimes_l1 n l0 fu_l1) r)) n ⟨_, _, rfl, h⟩ ?_)
    rintro fu_l2 _ ⟨p5_7, i6_7, rfl, h⟩
    cases fu_l2 with
    | zero => cases h
    | succ fu_l2 =>
     refine ⟨fu_l2, rfl, ?_⟩
     rw [rprimes_l2] at h
     refine W_seq ?_
     refine Vrs hT [0] ⟨[(0, kI l0), (3, kH 0), (4, kY y4_1), (5, kB p5_7), (6, kI i6_7), (16, kB (decide (i6_7 < ((q3_3.length : Nat) : Int))))], [], [nq 96 q3_3]⟩ ?_
     refine Vi ((decide (i6_7 < ((q3_3.length : Nat) : Int)))) (fun g9 => ?_) (fun g9 => ?_)
     ·replace h := bif_t h g9
      refine Vc [] [0] ⟨[(0, kI l0), (3, kH 0), (4, kY y4_1), (5, kB p5_7), (6, kI i6_7)], [], [nq 96 q3_3]⟩ (W_skip ?_)
      refine W_seq ?_
      refine W_block ?_
      rcases Bool.eq_false_or_eq_true p5_7 with g1 | g1
      ·replace h := bif_t h g1
       obtain ⟨g2, g3, g4, h⟩ := gd3 h
       refine Vg hT fN [(1, true)] [] [0] ⟨[(0, kI l0), (3, kH 0), (4, kY y4_1), (5, kB ((y4_1 % (q3_3.getD i6_7.toNat 0)) != 0)), (6, kI i6_7)], [], [nq 96 q3_3]⟩ (aP g1 (aP g2 (aP g3 (aP g4 aN)))) ?_
       obtain ⟨g5, h⟩ := gd_some h
       refine Vg hT fN [] [] [0] (rprimes_l2_E l0 q3_3 y4_1 ((y4_1 % (q3_3.getD i6_7.toNat 0)) != 0) (i6_7 + 1)) (aP g5 aN) ?_
       exact ⟨_, _, rfl, h⟩
      ·replace h := bif_f h g1
       refine Vg hT fN [(1, false)] [] [0] ⟨[(0, kI l0), (3, kH 0), (4, kY y4_1), (5, kB false), (6, kI i6_7)], [], [nq 96 q3_3]⟩ (aP g1 aN) ?_
       obtain ⟨g6, h⟩ := gd_some h
       refine Vg hT fN [] [] [0] (rprimes_l2_E l0 q3_3 y4_1 false (i6_7 + 1)) (aP g6 aN) ?_
       exact ⟨_, _, rfl, h⟩
     ·replace h := bif_f h g9
      refine Vc [] [0] ⟨[(0, kI l0), (3, kH 0), (4, kY y4_1), (5, kB p5_7)], [], [nq 96 q3_3]⟩ (W_exit ?_)
      refine Vrs hT [0] ⟨[(0, kI l0), (3, kH 0), (4, kY y4_1), (29, kB p5_7)], [], [nq 96 q3_3]⟩ ?_
      refine Vi (p5_7) (fun g8 => ?_) (fun g8 => ?_)
      ·replace h := bif_t h g8
       obtain ⟨g7, h⟩ := gd_some h
       refine Vg hT fN [] [] [2] (rprimes_j1_E l0 y4_1 (q3_3 ++ [y4_1])) (aP g7 aN) ?_
       exact ⟨_, rfl, h⟩
      ·replace h := bif_f h g8
       refine Vc [] [0] (rprimes_j1_E l0 y4_1 q3_3) (W_skip ?_)
       exact ⟨_, rfl, h⟩
  ·replace h := bif_f h g10
   refine Vc [] [0] ⟨[(3, kH 0)], [], [nq 96 q3_3]⟩ (W_exit ?_)
   refine Vrs hT [0] ⟨[(2, kH 0)], [], [nq 96 q3_3]⟩ ?_
   refine Vc [] [0] (rprimes_R q3_3) (W_ret ?_)
   exact ⟨.inl rfl, by cases h; rfl⟩
def rproduct_R (r : List UInt64) : S := ⟨[(4, kP 0 0)], [], [⟨.blk, 130, 1, 4, .q r⟩]⟩
def rproduct_ct (n : Nat) (r : List UInt64) : Ct := ctc rU64.rd fun _ l0 => ctc rU64.rd fun _ l1 => ct0 fun H => ([rproduct n l0 l1 = some r], shA H.length (.g 4 (.q r)), shH H.length [])
theorem rproduct_ok (n : Nat) (r : List UInt64) : FnOk Tryd.prog Tr 103 (rproduct_ct n r) := by
 refine fnok Tryd.func103 ?_
 refine HO_c rU64 fun l0 _ => HO_c rU64 fun l1 _ => HO_0 tabO_gr (rproduct_R r) [.cell 4 130] [] 71 Tryd.func103 fun w hG h => ?_
 unfold rproduct at h
 have hT := tabO_gr
 refine Vrs hT [0] ⟨[(0, kY l0), (1, kY l1), (4, kP 0 0)], [], [⟨.blk, 130, 1, 4, .q (List.replicate 4 0)⟩]⟩ ?_
 obtain ⟨g1, g2, g3, g4, h⟩ := gd4 h
 refine Vgs hT fN [] [] [0] ⟨[(4, kP 0 0), (5, kY (l0 % (4294967296 : UInt64))), (6, kY (l0 / (4294967296 : UInt64))), (7, kY (l1 % (4294967296 : UInt64))), (8, kY (l1 / (4294967296 : UInt64)))], [], [⟨.blk, 130, 1, 4, .q (List.replicate 4 0)⟩]⟩ (aP g1 (aP g2 (aP g3 (aP g4 aN)))) ?_
 refine Vrs hT [0, 1] ⟨[(4, kP 0 0), (5, kY (l0 % (4294967296 : UInt64))), (6, kY (l0 / (4294967296 : UInt64))), (7, kY (l1 % (4294967296 : UInt64))), (8, kY (l1 / (4294967296 : UInt64))), (9, kP 1 0)], [], [⟨.blk, 130, 1, 4, .q (List.replicate 4 0)⟩, ⟨.blk, 130, 1, 4, .q (List.replicate 4 0)⟩]⟩ ?_
 refine Vrs hT [0, 1] ⟨[(4, kP 0 0), (5, kY (l0 % (4294967296 : UInt64))), (6, kY (l0 / (4294967296 : UInt64))), (7, kY (l1 % (4294967296 : UInt64))), (8, kY (l1 / (4294967296 : UInt64))), (9, kP 1 0), (10, kY ((l0 % (4294967296 : UInt64)) * (l1 % (4294967296 : UInt64))))], [], [⟨.blk, 130, 1, 4, .q (List.replicate 4 0)⟩, ⟨.blk, 130, 1, 4, .q (List.replicate 4 0)⟩]⟩ ?_
 obtain ⟨g5, g6, g7, h⟩ := gd3 h
 refine Vgs hT fN [] [] [0, 1] ⟨[(4, kP 0 0), (5, kY (l0 % (4294967296 : UInt64))), (6, kY (l0 / (4294967296 : UInt64))), (7, kY (l1 % (4294967296 : UInt64))), (8, kY (l1 / (4294967296 : UInt64))), (9, kP 1 0), (10, kY ((l0 % (4294967296 : UInt64)) * (l1 % (4294967296 : UInt64)))), (11, kY (((((l0 % (4294967296 : UInt64)) * (l1 / (4294967296 : UInt64))) % (4294967296 : UInt64)) + (((l0 / (4294967296 : UInt64)) * (l1 % (4294967296 : UInt64))) % (4294967296 : UInt64))) + (((l0 % (4294967296 : UInt64)) * (l1 % (4294967296 : UInt64))) / (4294967296 : UInt64))))], [], [⟨.blk, 130, 1, 4, .q (List.replicate 4 0)⟩, ⟨.blk, 130, 1, 4, .q (List.replicate 4 0)⟩]⟩ (aP g5 (aP g6 (aP g7 aN))) ?_
 obtain ⟨g8, g9, g10, g11, h⟩ := gd4 h
 refine Vgs hT fN [] [] [0, 1] ⟨[(4, kP 0 0), (6, kY (l0 / (4294967296 : UInt64))), (8, kY (l1 / (4294967296 : UInt64))), (9, kP 1 0), (10, kY ((l0 % (4294967296 : UInt64)) * (l1 % (4294967296 : UInt64)))), (11, kY (((((l0 % (4294967296 : UInt64)) * (l1 / (4294967296 : UInt64))) % (4294967296 : UInt64)) + (((l0 / (4294967296 : UInt64)) * (l1 % (4294967296 : UInt64))) % (4294967296 : UInt64))) + (((l0 % (4294967296 : UInt64)) * (l1 % (4294967296 : UInt64))) / (4294967296 : UInt64)))), (12, kY ((((((l0 % (4294967296 : UInt64)) * (l1 / (4294967296 : UInt64))) / (4294967296 : UInt64)) + (((l0 / (4294967296 : UInt64)) * (l1 % (4294967296 : UInt64))) / (4294967296 : UInt64))) + (((l0 / (4294967296 : UInt64)) * (l1 / (4294967296 : UInt64))) % (4294967296 : UInt64))) + ((((((l0 % (4294967296 : UInt64)) * (l1 / (4294967296 : UInt64))) % (4294967296 : UInt64)) + (((l0 / (4294967296 : UInt64)) * (l1 % (4294967296 : UInt64))) % (4294967296 : UInt64))) + (((l0 % (4294967296 : UInt64)) * (l1 % (4294967296 : UInt64))) / (4294967296 : UInt64))) / (4294967296 : UInt64))))], [], [⟨.blk, 130, 1, 4, .q (List.replicate 4 0)⟩, ⟨.blk, 130, 1, 4, .q (List.replicate 4 0)⟩]⟩ (aP g8 (aP g9 (aP g10 (aP g11 aN)))) ?_
 obtain ⟨g12, g13, g14, h⟩ := gd3 h
 refine Vgs hT fN [] [] [0, 1] ⟨[(4, kP 0 0), (6, kY (l0 / (4294967296 : UInt64))), (8, kY (l1 / (4294967296 : UInt64))), (9, kP 1 0), (11, kY (((((l0 % (4294967296 : UInt64)) * (l1 / (4294967296 : UInt64))) % (4294967296 : UInt64)) + (((l0 / (4294967296 : UInt64)) * (l1 % (4294967296 : UInt64))) % (4294967296 : UInt64))) + (((l0 % (4294967296 : UInt64)) * (l1 % (4294967296 : UInt64))) / (4294967296 : UInt64)))), (12, kY ((((((l0 % (4294967296 : UInt64)) * (l1 / (4294967296 : UInt64))) / (4294967296 : UInt64)) + (((l0 / (4294967296 : UInt64)) * (l1 % (4294967296 : UInt64))) / (4294967296 : UInt64))) + (((l0 / (4294967296 : UInt64)) * (l1 / (4294967296 : UInt64))) % (4294967296 : UInt64))) + ((((((l0 % (4294967296 : UInt64)) * (l1 / (4294967296 : UInt64))) % (4294967296 : UInt64)) + (((l0 / (4294967296 : UInt64)) * (l1 % (4294967296 : UInt64))) % (4294967296 : UInt64))) + (((l0 % (4294967296 : UInt64)) * (l1 % (4294967296 : UInt64))) / (4294967296 : UInt64))) / (4294967296 : UInt64))))], [], [⟨.blk, 130, 1, 4, .q (List.replicate 4 0)⟩, ⟨.blk, 130, 1, 4, .q ((List.replicate 4 0).set 0 (((l0 % (4294967296 : UInt64)) * (l1 % (4294967296 : UInt64))) % (4294967296 : UInt64)))⟩]⟩ (aP g12 (aP g13 (aP g14 aN))) ?_
 obtain ⟨g15, g16, g17, h⟩ := gd3 h
 refine Vgs hT fN [] [] [0, 1] ⟨[(4, kP 0 0), (6, kY (l0 / (4294967296 : UInt64))), (8, kY (l1 / (4294967296 : UInt64))), (9, kP 1 0), (12, kY ((((((l0 % (4294967296 : UInt64)) * (l1 / (4294967296 : UInt64))) / (4294967296 : UInt64)) + (((l0 / (4294967296 : UInt64)) * (l1 % (4294967296 : UInt64))) / (4294967296 : UInt64))) + (((l0 / (4294967296 : UInt64)) * (l1 / (4294967296 : UInt64))) % (4294967296 : UInt64))) + ((((((l0 % (4294967296 : UInt64)) * (l1 / (4294967296 : UInt64))) % (4294967296 : UInt64)) + (((l0 / (4294967296 : UInt64)) * (l1 % (4294967296 : UInt64))) % (4294967296 : UInt64))) + (((l0 % (4294967296 : UInt64)) * (l1 % (4294967296 : UInt64))) / (4294967296 : UInt64))) / (4294967296 : UInt64))))], [], [⟨.blk, 130, 1, 4, .q (List.replicate 4 0)⟩, ⟨.blk, 130, 1, 4, .q (((List.replicate 4 0).set 0 (((l0 % (4294967296 : UInt64)) * (l1 % (4294967296 : UInt64))) % (4294967296 : UInt64))).set 1 ((((((l0 % (4294967296 : UInt64)) * (l1 / (4294967296 : UInt64))) % (4294967296 : UInt64)) + (((l0 / (4294967296 : UInt64)) * (l1 % (4294967296 : UInt64))) % (4294967296 : UInt64))) + (((l0 % (4294967296 : UInt64)) * (l1 % (4294967296 : UInt64))) / (4294967296 : UInt64))) % (4294967296 : UInt64)))⟩]⟩ (aP g15 (aP g16 (aP g17 aN))) ?_
 obtain ⟨g18, g19, g20, h⟩ := gd3 h
 refine Vgs hT fN [] [] [0, 1] ⟨[(4, kP 0 0), (6, kY (l0 / (4294967296 : UInt64))), (8, kY (l1 / (4294967296 : UInt64))), (9, kP 1 0), (12, kY ((((((l0 % (4294967296 : UInt64)) * (l1 / (4294967296 : UInt64))) / (4294967296 : UInt64)) + (((l0 / (4294967296 : UInt64)) * (l1 % (4294967296 : UInt64))) / (4294967296 : UInt64))) + (((l0 / (4294967296 : UInt64)) * (l1 / (4294967296 : UInt64))) % (4294967296 : UInt64))) + ((((((l0 % (4294967296 : UInt64)) * (l1 / (4294967296 : UInt64))) % (4294967296 : UInt64)) + (((l0 / (4294967296 : UInt64)) * (l1 % (4294967296 : UInt64))) % (4294967296 : UInt64))) + (((l0 % (4294967296 : UInt64)) * (l1 % (4294967296 : UInt64))) / (4294967296 : UInt64))) / (4294967296 : UInt64))))], [], [⟨.blk, 130, 1, 4, .q (List.replicate 4 0)⟩, ⟨.blk, 130, 1, 4, .q ((((List.replicate 4 0).set 0 (((l0 % (4294967296 : UInt64)) * (l1 % (4294967296 : UInt64))) % (4294967296 : UInt64))).set 1 ((((((l0 % (4294967296 : UInt64)) * (l1 / (4294967296 : UInt64))) % (4294967296 : UInt64)) + (((l0 / (4294967296 : UInt64)) * (l1 % (4294967296 : UInt64))) % (4294967296 : UInt64))) + (((l0 % (4294967296 : UInt64)) * (l1 % (4294967296 : UInt64))) / (4294967296 : UInt64))) % (4294967296 : UInt64))).set 2 (((((((l0 % (4294967296 : UInt64)) * (l1 / (4294967296 : UInt64))) / (4294967296 : UInt64)) + (((l0 / (4294967296 : UInt64)) * (l1 % (4294967296 : UInt64))) / (4294967296 : UInt64))) + (((l0 / (4294967296 : UInt64)) * (l1 / (4294967296 : UInt64))) % (4294967296 : UInt64))) + ((((((l0 % (4294967296 : UInt64)) * (l1 / (4294967296 : UInt64))) % (4294967296 : UInt64)) + (((l0 / (4294967296 : UInt64)) * (l1 % (4294967296 : UInt64))) % (4294967296 : UInt64))) + (((l0 % (4294967296 : UInt64)) * (l1 % (4294967296 : UInt64))) / (4294967296 : UInt64))) / (4294967296 : UInt64))) % (4294967296 : UInt64)))⟩]⟩ (aP g18 (aP g19 (aP g20 aN))) ?_
 obtain ⟨g21, g22, g23, g24, h⟩ := gd4 h
 refine Vgs hT fN [] [] [0, 1] ⟨[(4, kP 0 0), (9, kP 1 0)], [], [⟨.blk, 130, 1, 4, .q (List.replicate 4 0)⟩, ⟨.blk, 130, 1, 4, .q (((((List.replicate 4 0).set 0 (((l0 % (4294967296 : UInt64)) * (l1 % (4294967296 : UInt64))) % (4294967296 : UInt64))).set 1 ((((((l0 % (4294967296 : UInt64)) * (l1 / (4294967296 : UInt64))) % (4294967296 : UInt64)) + (((l0 / (4294967296 : UInt64)) * (l1 % (4294967296 : UInt64))) % (4294967296 : UInt64))) + (((l0 % (4294967296 : UInt64)) * (l1 % (4294967296 : UInt64))) / (4294967296 : UInt64))) % (4294967296 : UInt64))).set 2 (((((((l0 % (4294967296 : UInt64)) * (l1 / (4294967296 : UInt64))) / (4294967296 : UInt64)) + (((l0 / (4294967296 : UInt64)) * (l1 % (4294967296 : UInt64))) / (4294967296 : UInt64))) + (((l0 / (4294967296 : UInt64)) * (l1 / (4294967296 : UInt64))) % (4294967296 : UInt64))) + ((((((l0 % (4294967296 : UInt64)) * (l1 / (4294967296 : UInt64))) % (4294967296 : UInt64)) + (((l0 / (4294967296 : UInt64)) * (l1 % (4294967296 : UInt64))) % (4294967296 : UInt64))) + (((l0 % (4294967296 : UInt64)) * (l1 % (4294967296 : UInt64))) / (4294967296 : UInt64))) / (4294967296 : UInt64))) % (4294967296 : UInt64))).set 3 ((((l0 / (4294967296 : UInt64)) * (l1 / (4294967296 : UInt64))) / (4294967296 : UInt64)) + (((((((l0 % (4294967296 : UInt64)) * (l1 / (4294967296 : UInt64))) / (4294967296 : UInt64)) + (((l0 / (4294967296 : UInt64)) * (l1 % (4294967296 : UInt64))) / (4294967296 : UInt64))) + (((l0 / (4294967296 : UInt64)) * (l1 / (4294967296 : UInt64))) % (4294967296 : UInt64))) + ((((((l0 % (4294967296 : UInt64)) * (l1 / (4294967296 : UInt64))) % (4294967296 : UInt64)) + (((l0 / (4294967296 : UInt64)) * (l1 % (4294967296 : UInt64))) % (4294967296 : UInt64))) + (((l0 % (4294967296 : UInt64)) * (l1 % (4294967296 : UInt64))) / (4294967296 : UInt64))) / (4294967296 : UInt64))) / (4294967296 : UInt64))))⟩]⟩ (aP g21 (aP g22 (aP g23 (aP g24 aN)))) ?_
 refine Vrs hT [0] ⟨[(4, kP 0 0)], [], [⟨.blk, 130, 1, 4, .q (((((List.replicate 4 0).set 0 (((l0 % (4294967296 : UInt64)) * (l1 % (4294967296 : UInt64))) % (4294967296 : UInt64))).set 1 ((((((l0 % (4294967296 : UInt64)) * (l1 / (4294967296 : UInt64))) % (4294967296 : UInt64)) + (((l0 / (4294967296 : UInt64)) * (l1 % (4294967296 : UInt64))) % (4294967296 : UInt64))) + (((l0 % (4294967296 : UInt64)) * (l1 % (4294967296 : UInt64))) / (4294967296 : UInt64))) % (4294967296 : UInt64))).set 2 (((((((l0 % (4294967296 : UInt64)) * (l1 / (4294967296 : UInt64))) / (4294967296 : UInt64)) + (((l0 / (4294967296 : UInt64)) * (l1 % (4294967296 : UInt64))) / (4294967296 : UInt64))) + (((l0 / (4294967296 : UInt64)) * (l1 / (4294967296 : UInt64))) % (4294967296 : UInt64))) + ((((((l0 % (4294967296 : UInt64)) * (l1 / (4294967296 : UInt64))) % (4294967296 : UInt64)) + (((l0 / (4294967296 : UInt64)) * (l1 % (4294967296 : UInt64))) % (4294967296 : UInt64))) + (((l0 % (4294967296 : UInt64)) * (l1 % (4294967296 : UInt64))) / (4294967296 : UInt64))) / (4294967296 : UInt64))) % (4294967296 : UInt64))).set 3 ((((l0 / (4294967296 : UInt64)) * (l1 / (4294967296 : UInt64))) / (4294967296 : UInt64)) + (((((((l0 % (4294967296 : UInt64)) * (l1 / (4294967296 : UInt64))) / (4294967296 : UInt64)) + (((l0 / (4294967296 : UInt64)) * (l1 % (4294967296 : UInt64))) / (4294967296 : UInt64))) + (((l0 / (4294967296 : UInt64)) * (l1 / (4294967296 : UInt64))) % (4294967296 : UInt64))) + ((((((l0 % (4294967296 : UInt64)) * (l1 / (4294967296 : UInt64))) % (4294967296 : UInt64)) + (((l0 / (4294967296 : UInt64)) * (l1 % (4294967296 : UInt64))) % (4294967296 : UInt64))) + (((l0 % (4294967296 : UInt64)) * (l1 % (4294967296 : UInt64))) / (4294967296 : UInt64))) / (4294967296 : UInt64))) / (4294967296 : UInt64))))⟩]⟩ ?_
 refine Vc [] [0] (rproduct_R (((((List.replicate 4 0).set 0 (((l0 % (4294967296 : UInt64)) * (l1 % (4294967296 : UInt64))) % (4294967296 : UInt64))).set 1 ((((((l0 % (4294967296 : UInt64)) * (l1 / (4294967296 : UInt64))) % (4294967296 : UInt64)) + (((l0 / (4294967296 : UInt64)) * (l1 % (4294967296 : UInt64))) % (4294967296 : UInt64))) + (((l0 % (4294967296 : UInt64)) * (l1 % (4294967296 : UInt64))) / (4294967296 : UInt64))) % (4294967296 : UInt64))).set 2 (((((((l0 % (4294967296 : UInt64)) * (l1 / (4294967296 : UInt64))) / (4294967296 : UInt64)) + (((l0 / (4294967296 : UInt64)) * (l1 % (4294967296 : UInt64))) / (4294967296 : UInt64))) + (((l0 / (4294967296 : UInt64)) * (l1 / (4294967296 : UInt64))) % (4294967296 : UInt64))) + ((((((l0 % (4294967296 : UInt64)) * (l1 / (4294967296 : UInt64))) % (4294967296 : UInt64)) + (((l0 / (4294967296 : UInt64)) * (l1 % (4294967296 : UInt64))) % (4294967296 : UInt64))) + (((l0 % (4294967296 : UInt64)) * (l1 % (4294967296 : UInt64))) / (4294967296 : UInt64))) / (4294967296 : UInt64))) % (4294967296 : UInt64))).set 3 ((((l0 / (4294967296 : UInt64)) * (l1 / (4294967296 : UInt64))) / (4294967296 : UInt64)) + (((((((l0 % (4294967296 : UInt64)) * (l1 / (4294967296 : UInt64))) / (4294967296 : UInt64)) + (((l0 / (4294967296 : UInt64)) * (l1 % (4294967296 : UInt64))) / (4294967296 : UInt64))) + (((l0 / (4294967296 : UInt64)) * (l1 / (4294967296 : UInt64))) % (4294967296 : UInt64))) + ((((((l0 % (4294967296 : UInt64)) * (l1 / (4294967296 : UInt64))) % (4294967296 : UInt64)) + (((l0 / (4294967296 : UInt64)) * (l1 % (4294967296 : UInt64))) % (4294967296 : UInt64))) + (((l0 % (4294967296 : UInt64)) * (l1 % (4294967296 : UInt64))) / (4294967296 : UInt64))) / (4294967296 : UInt64))) / (4294967296 : UInt64))))) (W_ret ?_)
 exact ⟨.inl rfl, by cases h; rfl⟩
def rsquare_R (r : Bool) : S := ⟨[(4, kB r)], [], []⟩
def rsquare_ct (n : Nat) (r : Bool) : Ct := ctc rU64.rd fun _ l0 => ctc rU64.rd fun _ l1 => ct0 fun H => ([rsquare n l0 l1 = some r], shA H.length (kB r), shH H.length [])
theorem rsquare_ok (n : Nat) (r : Bool) : FnOk Tryd.prog Tr 96 (rsquare_ct n r) := by
 refine fnok Tryd.func96 ?_
 refine HO_c rU64 fun l0 _ => HO_c rU64 fun l1 _ => HO_0 tabO_gr (rsquare_R r) [.tmp 4] [] 35 Tryd.func96 fun w hG h => ?_
 unfold rsquare at h
 have hT := tabO_gr
 refine Vrs hT [] ⟨[(0, kY l0), (1, kY l1)], [], []⟩ ?_
 obtain ⟨r10, g1, h⟩ := bind_some' h
 refine Vgs hT (fT 2 (rproduct_ok n r10) fN) [] [] [0] ⟨[(1, kY l1), (5, kP 0 0)], [], [⟨.blk, 130, 1, 4, .q r10⟩]⟩ (aP g1 aN) ?_
 obtain ⟨g2, g3, g4, g5, h⟩ := gd4 h
 refine Vgs hT fN [] [] [0] ⟨[(1, kY l1), (5, kP 0 0), (6, kY (((r10.getD 3 0) * (4294967296 : UInt64)) + (r10.getD 2 0)))], [], [⟨.blk, 130, 1, 4, .q r10⟩]⟩ (aP g2 (aP g3 (aP g4 (aP g5 aN)))) ?_
 obtain ⟨g6, g7, g8, g9, h⟩ := gd4 h
 refine Vgs hT fN [] [] [] ⟨[(1, kY l1), (6, kY (((r10.getD 3 0) * (4294967296 : UInt64)) + (r10.getD 2 0))), (7, kY (((r10.getD 1 0) * (4294967296 : UInt64)) + (r10.getD 0 0)))], [], []⟩ (aP g6 (aP g7 (aP g8 (aP g9 aN)))) ?_
 refine W_seq ?_
 rcases Bool.eq_false_or_eq_true (decide ((((r10.getD 3 0) * (4294967296 : UInt64)) + (r10.getD 2 0)) < l1)) with g10 | g10
 ·replace h := bif_t h g10
  refine Vg hT fN [(3, true)] [] [] ⟨[(4, kB true)], [], []⟩ (aP g10 aN) ?_
  refine Vc [] [] (rsquare_R true) (W_ret ?_)
  exact ⟨.inl rfl, by cases h; rfl⟩
 ·replace h := bif_f h g10
  rcases Bool.eq_false_or_eq_true ((((r10.getD 3 0) * (4294967296 : UInt64)) + (r10.getD 2 0)) == l1) with g11 | g11
  ·replace h := bif_t h g11
   refine Vg hT fN [(3, false), (7, true)] [] [] ⟨[(4, kB ((((r10.getD 1 0) * (4294967296 : UInt64)) + (r10.getD 0 0)) == 0))], [], []⟩ (aP g10 (aP g11 aN)) ?_
   refine Vc [] [] (rsquare_R ((((r10.getD 1 0) * (4294967296 : UInt64)) + (r10.getD 0 0)) == 0)) (W_ret ?_)
   exact ⟨.inl rfl, by cases h; rfl⟩
  ·replace h := bif_f h g11
   refine Vg hT fN [(3, false), (7, false)] [] [] ⟨[(4, kB false)], [], []⟩ (aP g10 (aP g11 aN)) ?_
   refine Vc [] [] (rsquare_R false) (W_ret ?_)
   exact ⟨.inl rfl, by cases h; rfl⟩
def rcube_j2_E (a0 : UInt64) (a1 : UInt64) (r17 : List UInt64) (q6_1 : List UInt64) (i10_1 : Int) (y9_9 : UInt64) (y11_7 : UInt64) : S := ⟨[(1, kY a1), (5, kP 0 0), (6, kP 1 0), (7, kY (a0 % (4294967296 : UInt64))), (8, kY (a0 / (4294967296 : UInt64))), (9, kY y9_9), (10, kI i10_1), (11, kY y11_7)], [], [⟨.blk, 130, 1, 4, .q r17⟩, ⟨.blk, 132, 1, 5, .q q6_1⟩]⟩
abbrev rcube_j2_P (n : Nat) (a0 : UInt64) (a1 : UInt64) (r17 : List UInt64) (q6_1 : List UInt64) (i10_1 : Int) (k_l1 : (List UInt64) → UInt64 → Int → Option (Bool)) (r : Bool) : S → Prop := fun s => ∃ (y9_9 : UInt64), ∃ (y11_7 : UInt64), s = rcube_j2_E a0 a1 r17 q6_1 i10_1 y9_9 y11_7 ∧ rcube_j2 n a0 a1 r17 q6_1 i10_1 k_l1 y9_9 y11_7 = some r
def rcube_j1_E (a0 : UInt64) (a1 : UInt64) (r17 : List UInt64) (q6_1 : List UInt64) (i10_1 : Int) (y9_8 : UInt64) (y11_6 : UInt64) : S := ⟨[(1, kY a1), (5, kP 0 0), (6, kP 1 0), (7, kY (a0 % (4294967296 : UInt64))), (8, kY (a0 / (4294967296 : UInt64))), (9, kY y9_8), (10, kI i10_1), (11, kY y11_6)], [], [⟨.blk, 130, 1, 4, .q r17⟩, ⟨.blk, 132, 1, 5, .q q6_1⟩]⟩
abbrev rcube_j1_P (n : Nat) (a0 : UInt64) (a1 : UInt64) (r17 : List UInt64) (q6_1 : List UInt64) (i10_1 : Int) (k_l1 : (List UInt64) → UInt64 → Int → Option (Bool)) (r : Bool) : S → Prop := fun s => ∃ (y9_8 : UInt64), ∃ (y11_6 : UInt64), s = rcube_j1_E a0 a1 r17 q6_1 i10_1 y9_8 y11_6 ∧ rcube_j1 n a0 a1 r17 q6_1 i10_1 k_l1 y9_8 y11_6 = some r
def rcube_l1_E (a0 : UInt64) (a1 : UInt64) (r17 : List UInt64) (q6_1 : List UInt64) (y9_5 : UInt64) (i10_1 : Int) : S := ⟨[(1, kY a1), (5, kP 0 0), (6, kP 1 0), (7, kY (a0 % (4294967296 : UInt64))), (8, kY (a0 / (4294967296 : UInt64))), (9, kY y9_5), (10, kI i10_1)], [], [⟨.blk, 130, 1, 4, .q r17⟩, ⟨.blk, 132, 1, 5, .q q6_1⟩]⟩
abbrev rcube_l1_P (n : Nat) (a0 : UInt64) (a1 : UInt64) (r17 : List UInt64) (r : Bool) (fu : Nat) : S → Prop := fun s => ∃ (q6_1 : List UInt64), ∃ (y9_5 : UInt64), ∃ (i10_1 : Int), s = rcube_l1_E a0 a1 r17 q6_1 y9_5 i10_1 ∧ rcube_l1 n a0 a1 r17 fu q6_1 y9_5 i10_1 = some r
def rcube_R (r : Bool) : S := ⟨[(4, kB r)], [], []⟩
def rcube_ct (n : Nat) (r : Bool) : Ct := ctc rU64.rd fun _ l0 => ctc rU64.rd fun _ l1 => ct0 fun H => ([rcube n l0 l1 = some r], shA H.length (kB r), shH H.length [])
theorem rcube_ok (n : Nat) (r : Bool) : FnOk Tryd.prog Tr 95 (rcube_ct n r) := by
 refine fnok Tryd.func95 ?_
 refine HO_c rU64 fun l0 _ => HO_c rU64 fun l1 _ => HO_0 tabO_gr (rcube_R r) [.tmp 4] [] 95 Tryd.func95 fun w hG h => ?_
 unfold rcube at h
 have hT := tabO_gr
 refine Vrs hT [] ⟨[(0, kY l0), (1, kY l1)], [], []⟩ ?_
 obtain ⟨r17, g1, h⟩ := bind_some' h
 refine Vgs hT (fT 2 (rproduct_ok n r17) fN) [] [] [0] ⟨[(0, kY l0), (1, kY l1), (5, kP 0 0)], [], [⟨.blk, 130, 1, 4, .q r17⟩]⟩ (aP g1 aN) ?_
 refine Vrs hT [0, 1] ⟨[(0, kY l0), (1, kY l1), (5, kP 0 0), (6, kP 1 0)], [], [⟨.blk, 130, 1, 4, .q r17⟩, ⟨.blk, 132, 1, 5, .q (List.replicate 5 0)⟩]⟩ ?_
 obtain ⟨g2, g3, h⟩ := gd2 h
 refine Vgs hT fN [] [] [0, 1] ⟨[(1, kY l1), (5, kP 0 0), (6, kP 1 0), (7, kY (l0 % (4294967296 : UInt64))), (8, kY (l0 / (4294967296 : UInt64)))], [], [⟨.blk, 130, 1, 4, .q r17⟩, ⟨.blk, 132, 1, 5, .q (List.replicate 5 0)⟩]⟩ (aP g2 (aP g3 aN)) ?_
 refine Vrs hT [0, 1] ⟨[(1, kY l1), (5, kP 0 0), (6, kP 1 0), (7, kY (l0 % (4294967296 : UInt64))), (8, kY (l0 / (4294967296 : UInt64))), (9, kY 0)], [], [⟨.blk, 130, 1, 4, .q r17⟩, ⟨.blk, 132, 1, 5, .q (List.replicate 5 0)⟩]⟩ ?_
 refine W_seq ?_
 refine Vrs hT [0, 1] ⟨[(1, kY l1), (5, kP 0 0), (6, kP 1 0), (7, kY (l0 % (4294967296 : UInt64))), (8, kY (l0 / (4294967296 : UInt64))), (9, kY 0), (10, kI 0)], [], [⟨.blk, 130, 1, 4, .q r17⟩, ⟨.blk, 132, 1, 5, .q (List.replicate 5 0)⟩]⟩ ?_
 refine W_block ?_
 refine Vc [] [0, 1] (rcube_l1_E l0 l1 r17 (List.replicate 5 0) 0 0) (W_lp ((rcube_l1_P n l0 l1 r17 r)) n ⟨_, _, _, rfl, h⟩ ?_)
 rintro fu_l1 _ ⟨q6_1, y9_5, i10_1, rfl, h⟩
 cases fu_l1 with
 | zero => cases h
 | succ fu_l1 =>
  refine ⟨fu_l1, rfl, ?_⟩
  rw [rcube_l1] at h
  refine W_seq ?_
  refine Vrs hT [0, 1] ⟨[(1, kY l1), (5, kP 0 0), (6, kP 1 0), (7, kY (l0 % (4294967296 : UInt64))), (8, kY (l0 / (4294967296 : UInt64))), (9, kY y9_5), (10, kI i10_1), (23, kB (decide (i10_1 < (5 : Int))))], [], [⟨.blk, 130, 1, 4, .q r17⟩, ⟨.blk, 132, 1, 5, .q q6_1⟩]⟩ ?_
  refine Vi ((decide (i10_1 < (5 : Int)))) (fun g34 => ?_) (fun g34 => ?_)
  ·replace h := bif_t h g34
   refine W_skip ?_
   refine W_seq ?_
   refine W_block ?_
   refine Vrs hT [0, 1] ⟨[(1, kY l1), (5, kP 0 0), (6, kP 1 0), (7, kY (l0 % (4294967296 : UInt64))), (8, kY (l0 / (4294967296 : UInt64))), (10, kI i10_1), (11, kY y9_5)], [], [⟨.blk, 130, 1, 4, .q r17⟩, ⟨.blk, 132, 1, 5, .q q6_1⟩]⟩ ?_
   refine Vrs hT [0, 1] ⟨[(1, kY l1), (5, kP 0 0), (6, kP 1 0), (7, kY (l0 % (4294967296 : UInt64))), (8, kY (l0 / (4294967296 : UInt64))), (9, kY 0), (10, kI i10_1), (11, kY y9_5)], [], [⟨.blk, 130, 1, 4, .q r17⟩, ⟨.blk, 132, 1, 5, .q q6_1⟩]⟩ ?_
   refine W_join (rcube_j1_P n l0 l1 r17 q6_1 i10_1 (rcube_l1 n l0 l1 r17 fu_l1) r) ?_ ?_
   ·rintro _ ⟨y9_8, y11_6, rfl, h⟩
    unfold rcube_j1 at h
    refine W_join (rcube_j2_P n l0 l1 r17 q6_1 i10_1 (rcube_l1 n l0 l1 r17 fu_l1) r) ?_ ?_
    ·rintro _ ⟨y9_9, y11_7, rfl, h⟩
     unfold rcube_j2 at h
     obtain ⟨g4, g5, g6, h⟩ := gd3 h
     refine Vgs hT fN [] [] [0, 1] ⟨[(1, kY l1), (5, kP 0 0), (6, kP 1 0), (7, kY (l0 % (4294967296 : UInt64))), (8, kY (l0 / (4294967296 : UInt64))), (9, kY y9_9), (10, kI i10_1), (11, kY y11_7)], [], [⟨.blk, 130, 1, 4, .q r17⟩, ⟨.blk, 132, 1, 5, .q (q6_1.set i10_1.toNat (y11_7 % (4294967296 : UInt64)))⟩]⟩ (aP g4 (aP g5 (aP g6 aN))) ?_
     obtain ⟨g7, h⟩ := gd_some h
     refine Vg hT fN [] [] [0, 1] ⟨[(1, kY l1), (5, kP 0 0), (6, kP 1 0), (7, kY (l0 % (4294967296 : UInt64))), (8, kY (l0 / (4294967296 : UInt64))), (9, kY (y9_9 + (y11_7 / (4294967296 : UInt64)))), (10, kI i10_1)], [], [⟨.blk, 130, 1, 4, .q r17⟩, ⟨.blk, 132, 1, 5, .q (q6_1.set i10_1.toNat (y11_7 % (4294967296 : UInt64)))⟩]⟩ (aP g7 aN) ?_
     obtain ⟨g8, h⟩ := gd_some h
     refine Vg hT fN [] [] [0, 1] (rcube_l1_E l0 l1 r17 (q6_1.set i10_1.toNat (y11_7 % (4294967296 : UInt64))) (y9_9 + (y11_7 / (4294967296 : UInt64))) (i10_1 + 1)) (aP g8 aN) ?_
     exact ⟨_, _, _, rfl, h⟩
    ·refine W_seq ?_
     refine Vr hT [0, 1] ⟨[(1, kY l1), (5, kP 0 0), (6, kP 1 0), (7, kY (l0 % (4294967296 : UInt64))), (8, kY (l0 / (4294967296 : UInt64))), (9, kY y9_8), (10, kI i10_1), (11, kY y11_6), (43, kB (decide ((0 : Int) < i10_1)))], [], [⟨.blk, 130, 1, 4, .q r17⟩, ⟨.blk, 132, 1, 5, .q q6_1⟩]⟩ ?_
     refine Vi ((decide ((0 : Int) < i10_1))) (fun g14 => ?_) (fun g14 => ?_)
     ·replace h := bif_t h g14
      obtain ⟨g9, g10, g11, h⟩ := gd3 h
      refine Vgs hT fN [] [] [0, 1] ⟨[(1, kY l1), (5, kP 0 0), (6, kP 1 0), (7, kY (l0 % (4294967296 : UInt64))), (8, kY (l0 / (4294967296 : UInt64))), (9, kY y9_8), (10, kI i10_1), (11, kY y11_6), (13, kY ((r17.getD ((i10_1 - 1).toNat) 0) * (l0 / (4294967296 : UInt64))))], [], [⟨.blk, 130, 1, 4, .q r17⟩, ⟨.blk, 132, 1, 5, .q q6_1⟩]⟩ (aP g9 (aP g10 (aP g11 aN))) ?_
      obtain ⟨g12, h⟩ := gd_some h
      refine Vgs hT fN [] [] [0, 1] ⟨[(1, kY l1), (5, kP 0 0), (6, kP 1 0), (7, kY (l0 % (4294967296 : UInt64))), (8, kY (l0 / (4294967296 : UInt64))), (9, kY y9_8), (10, kI i10_1), (11, kY (y11_6 + (((r17.getD ((i10_1 - 1).toNat) 0) * (l0 / (4294967296 : UInt64))) % (4294967296 : UInt64)))), (13, kY ((r17.getD ((i10_1 - 1).toNat) 0) * (l0 / (4294967296 : UInt64))))], [], [⟨.blk, 130, 1, 4, .q r17⟩, ⟨.blk, 132, 1, 5, .q q6_1⟩]⟩ (aP g12 aN) ?_
      obtain ⟨g13, h⟩ := gd_some h
      refine Vg hT fN [] [] [0, 1] (rcube_j2_E l0 l1 r17 q6_1 i10_1 (y9_8 + (((r17.getD ((i10_1 - 1).toNat) 0) * (l0 / (4294967296 : UInt64))) / (4294967296 : UInt64))) (y11_6 + (((r17.getD ((i10_1 - 1).toNat) 0) * (l0 / (4294967296 : UInt64))) % (4294967296 : UInt64)))) (aP g13 aN) ?_
      exact ⟨_, _, rfl, h⟩
     ·replace h := bif_f h g14
      refine Vc [] [0, 1] (rcube_j2_E l0 l1 r17 q6_1 i10_1 y9_8 y11_6) (W_skip ?_)
      exact ⟨_, _, rfl, h⟩
   ·refine W_seq ?_
    refine Vr hT [0, 1] ⟨[(1, kY l1), (5, kP 0 0), (6, kP 1 0), (7, kY (l0 % (4294967296 : UInt64))), (8, kY (l0 / (4294967296 : UInt64))), (9, kY 0), (10, kI i10_1), (11, kY y9_5), (28, kB (decide (i10_1 < (4 : Int))))], [], [⟨.blk, 130, 1, 4, .q r17⟩, ⟨.blk, 132, 1, 5, .q q6_1⟩]⟩ ?_
    refine Vi ((decide (i10_1 < (4 : Int)))) (fun g19 => ?_) (fun g19 => ?_)
    ·replace h := bif_t h g19
     obtain ⟨g15, g16, h⟩ := gd2 h
     refine Vgs hT fN [] [] [0, 1] ⟨[(1, kY l1), (5, kP 0 0), (6, kP 1 0), (7, kY (l0 % (4294967296 : UInt64))), (8, kY (l0 / (4294967296 : UInt64))), (9, kY 0), (10, kI i10_1), (11, kY y9_5), (12, kY ((r17.getD i10_1.toNat 0) * (l0 % (4294967296 : UInt64))))], [], [⟨.blk, 130, 1, 4, .q r17⟩, ⟨.blk, 132, 1, 5, .q q6_1⟩]⟩ (aP g15 (aP g16 aN)) ?_
     obtain ⟨g17, h⟩ := gd_some h
     refine Vgs hT fN [] [] [0, 1] ⟨[(1, kY l1), (5, kP 0 0), (6, kP 1 0), (7, kY (l0 % (4294967296 : UInt64))), (8, kY (l0 / (4294967296 : UInt64))), (9, kY 0), (10, kI i10_1), (11, kY (y9_5 + (((r17.getD i10_1.toNat 0) * (l0 % (4294967296 : UInt64))) % (4294967296 : UInt64)))), (12, kY ((r17.getD i10_1.toNat 0) * (l0 % (4294967296 : UInt64))))], [], [⟨.blk, 130, 1, 4, .q r17⟩, ⟨.blk, 132, 1, 5, .q q6_1⟩]⟩ (aP g17 aN) ?_
     obtain ⟨g18, h⟩ := gd_some h
     refine Vg hT fN [] [] [0, 1] (rcube_j1_E l0 l1 r17 q6_1 i10_1 ((0 : UInt64) + (((r17.getD i10_1.toNat 0) * (l0 % (4294967296 : UInt64))) / (4294967296 : UInt64))) (y9_5 + (((r17.getD i10_1.toNat 0) * (l0 % (4294967296 : UInt64))) % (4294967296 : UInt64)))) (aP g18 aN) ?_
     exact ⟨_, _, rfl, h⟩
    ·replace h := bif_f h g19
     refine Vc [] [0, 1] (rcube_j1_E l0 l1 r17 q6_1 i10_1 0 y9_5) (W_skip ?_)
     exact ⟨_, _, rfl, h⟩
  ·replace h := bif_f h g34
   refine Vc [] [1] ⟨[(1, kY l1), (6, kP 0 0)], [], [⟨.blk, 132, 1, 5, .q q6_1⟩]⟩ (W_exit ?_)
   obtain ⟨g20, g21, g22, g23, h⟩ := gd4 h
   refine Vgs hT fN [] [] [0] ⟨[(1, kY l1), (6, kP 0 0), (14, kY (((q6_1.getD 4 0) * (4294967296 : UInt64)) + (q6_1.getD 3 0)))], [], [⟨.blk, 132, 1, 5, .q q6_1⟩]⟩ (aP g20 (aP g21 (aP g22 (aP g23 aN)))) ?_
   refine W_seq ?_
   rcases Bool.eq_false_or_eq_true (decide ((((q6_1.getD 4 0) * (4294967296 : UInt64)) + (q6_1.getD 3 0)) < l1)) with g24 | g24
   ·replace h := bif_t h g24
    refine Vg hT fN [(3, true)] [] [] ⟨[(4, kB true)], [], []⟩ (aP g24 aN) ?_
    refine Vc [] [] (rcube_R true) (W_ret ?_)
    exact ⟨.inl rfl, by cases h; rfl⟩
   ·replace h := bif_f h g24
    rcases Bool.eq_false_or_eq_true ((((q6_1.getD 4 0) * (4294967296 : UInt64)) + (q6_1.getD 3 0)) == l1) with g25 | g25
    ·replace h := bif_t h g25
     obtain ⟨g26, g27, h⟩ := gd2 h
     rcases Bool.eq_false_or_eq_true ((q6_1.getD 0 0) == 0) with g28 | g28
     ·replace h := bif_t h g28
      obtain ⟨g29, g30, h⟩ := gd2 h
      rcases Bool.eq_false_or_eq_true ((q6_1.getD 1 0) == 0) with g31 | g31
      ·replace h := bif_t h g31
       obtain ⟨g32, g33, h⟩ := gd2 h
       refine Vg hT fN [(3, false), (7, true), (12, true), (17, true)] [] [] ⟨[(4, kB ((q6_1.getD 2 0) == 0))], [], []⟩ (aP g24 (aP g25 (aP g26 (aP g27 (aP g28 (aP g29 (aP g30 (aP g31 (aP g32 (aP g33 aN)))))))))) ?_
       refine Vc [] [] (rcube_R ((q6_1.getD 2 0) == 0)) (W_ret ?_)
       exact ⟨.inl rfl, by cases h; rfl⟩
      ·replace h := bif_f h g31
       refine Vg hT fN [(3, false), (7, true), (12, true), (17, false)] [] [] ⟨[(4, kB false)], [], []⟩ (aP g24 (aP g25 (aP g26 (aP g27 (aP g28 (aP g29 (aP g30 (aP g31 aN)))))))) ?_
       refine Vc [] [] (rcube_R false) (W_ret ?_)
       exact ⟨.inl rfl, by cases h; rfl⟩
     ·replace h := bif_f h g28
      refine Vg hT fN [(3, false), (7, true), (12, false)] [] [] ⟨[(4, kB false)], [], []⟩ (aP g24 (aP g25 (aP g26 (aP g27 (aP g28 aN))))) ?_
      refine Vc [] [] (rcube_R false) (W_ret ?_)
      exact ⟨.inl rfl, by cases h; rfl⟩
    ·replace h := bif_f h g25
     refine Vg hT fN [(3, false), (7, false)] [] [] ⟨[(4, kB false)], [], []⟩ (aP g24 (aP g25 aN)) ?_
     refine Vc [] [] (rcube_R false) (W_ret ?_)
     exact ⟨.inl rfl, by cases h; rfl⟩
def rfraction_j1_E (a0 : UInt64) (a1 : Bool) (i6_1 : Int) (y5_7 : UInt64) : S := ⟨[(0, kY a0), (1, kB a1), (5, kY y5_7), (6, kI i6_1)], [], []⟩
abbrev rfraction_j1_P (n : Nat) (a0 : UInt64) (a1 : Bool) (i6_1 : Int) (k_l1 : UInt64 → Int → Option (UInt32)) (r : UInt32) : S → Prop := fun s => ∃ (y5_7 : UInt64), s = rfraction_j1_E a0 a1 i6_1 y5_7 ∧ rfraction_j1 n a0 a1 i6_1 k_l1 y5_7 = some r
def rfraction_j2_E (a0 : UInt64) (a1 : Bool) (y5_5 : UInt64) (i6_1 : Int) (p8_11 : Bool) : S := ⟨[(0, kY a0), (1, kB a1), (5, kY y5_5), (6, kI i6_1), (7, kY (y5_5 + (shl64 1 (36 - i6_1)))), (8, kB p8_11)], [], []⟩
abbrev rfraction_j2_P (n : Nat) (a0 : UInt64) (a1 : Bool) (y5_5 : UInt64) (i6_1 : Int) (k_l1 : UInt64 → Int → Option (UInt32)) (r : UInt32) : S → Prop := fun s => ∃ (p8_11 : Bool), s = rfraction_j2_E a0 a1 y5_5 i6_1 p8_11 ∧ rfraction_j2 n a0 a1 y5_5 i6_1 k_l1 p8_11 = some r
def rfraction_l1_E (a0 : UInt64) (a1 : Bool) (y5_5 : UInt64) (i6_1 : Int) : S := ⟨[(0, kY a0), (1, kB a1), (5, kY y5_5), (6, kI i6_1)], [], []⟩
abbrev rfraction_l1_P (n : Nat) (a0 : UInt64) (a1 : Bool) (r : UInt32) (fu : Nat) : S → Prop := fun s => ∃ (y5_5 : UInt64), ∃ (i6_1 : Int), s = rfraction_l1_E a0 a1 y5_5 i6_1 ∧ rfraction_l1 n a0 a1 fu y5_5 i6_1 = some r
def rfraction_R (r : UInt32) : S := ⟨[(4, kX r)], [], []⟩
def rfraction_ct (n : Nat) (r : UInt32) : Ct := ctc rU64.rd fun _ l0 => ctc rBo.rd fun _ l1 => ct0 fun H => ([rfraction n l0 l1 = some r], shA H.length (kX r), shH H.length [])
theorem rfraction_ok (n : Nat) (r : UInt32) : FnOk Tryd.prog Tr 80 (rfraction_ct n r) := by
 refine fnok Tryd.func80 ?_
 refine HO_c rU64 fun l0 _ => HO_c rBo fun l1 _ => HO_0 tabO_gr (rfraction_R r) [.tmp 4] [] 30 Tryd.func80 fun w hG h => ?_
 unfold rfraction at h
 have hT := tabO_gr
 refine Vrs hT [] ⟨[(0, kY l0), (1, kB l1)], [], []⟩ ?_
 refine Vrs hT [] ⟨[(0, kY l0), (1, kB l1), (5, kY 0)], [], []⟩ ?_
 refine W_seq ?_
 refine Vrs hT [] ⟨[(0, kY l0), (1, kB l1), (5, kY 0), (6, kI 0)], [], []⟩ ?_
 refine W_block ?_
 refine Vc [] [] (rfraction_l1_E l0 l1 0 0) (W_lp ((rfraction_l1_P n l0 l1 r)) n ⟨_, _, rfl, h⟩ ?_)
 rintro fu_l1 _ ⟨y5_5, i6_1, rfl, h⟩
 cases fu_l1 with
 | zero => cases h
 | succ fu_l1 =>
  refine ⟨fu_l1, rfl, ?_⟩
  rw [rfraction_l1] at h
  refine W_seq ?_
  refine Vrs hT [] ⟨[(0, kY l0), (1, kB l1), (5, kY y5_5), (6, kI i6_1), (10, kB (decide (i6_1 < (37 : Int))))], [], []⟩ ?_
  refine Vi ((decide (i6_1 < (37 : Int)))) (fun g9 => ?_) (fun g9 => ?_)
  ·replace h := bif_t h g9
   refine Vc [] [] ⟨[(0, kY l0), (1, kB l1), (5, kY y5_5), (6, kI i6_1)], [], []⟩ (W_skip ?_)
   refine W_join (rfraction_j1_P n l0 l1 i6_1 (rfraction_l1 n l0 l1 fu_l1) r) ?_ ?_
   ·rintro _ ⟨y5_7, rfl, h⟩
    unfold rfraction_j1 at h
    obtain ⟨g1, h⟩ := gd_some h
    refine Vg hT fN [] [] [] (rfraction_l1_E l0 l1 y5_7 (i6_1 + 1)) (aP g1 aN) ?_
    exact ⟨_, _, rfl, h⟩
   ·refine W_block ?_
    obtain ⟨g2, g3, h⟩ := gd2 h
    refine Vgs hT fN [] [] [] ⟨[(0, kY l0), (1, kB l1), (5, kY y5_5), (6, kI i6_1), (7, kY (y5_5 + (shl64 1 (36 - i6_1))))], [], []⟩ (aP g2 (aP g3 aN)) ?_
    refine Vrs hT [] ⟨[(0, kY l0), (1, kB l1), (5, kY y5_5), (6, kI i6_1), (7, kY (y5_5 + (shl64 1 (36 - i6_1))))], [], []⟩ ?_
    refine W_join (rfraction_j2_P n l0 l1 y5_5 i6_1 (rfraction_l1 n l0 l1 fu_l1) r) ?_ ?_
    ·rintro _ ⟨p8_11, rfl, h⟩
     unfold rfraction_j2 at h
     refine Vrs hT [] ⟨[(0, kY l0), (1, kB l1), (5, kY y5_5), (6, kI i6_1), (7, kY (y5_5 + (shl64 1 (36 - i6_1)))), (25, kB p8_11)], [], []⟩ ?_
     refine Vi (p8_11) (fun g4 => ?_) (fun g4 => ?_)
     ·replace h := bif_t h g4
      refine Vr hT [] (rfraction_j1_E l0 l1 i6_1 (y5_5 + (shl64 1 (36 - i6_1)))) ?_
      exact ⟨_, rfl, h⟩
     ·replace h := bif_f h g4
      refine Vc [] [] (rfraction_j1_E l0 l1 i6_1 y5_5) (W_skip ?_)
      exact ⟨_, rfl, h⟩
    ·refine W_seq ?_
     refine Vr hT [] ⟨[(0, kY l0), (1, kB l1), (5, kY y5_5), (6, kI i6_1), (7, kY (y5_5 + (shl64 1 (36 - i6_1)))), (18, kB l1)], [], []⟩ ?_
     refine Vi (l1) (fun g7 => ?_) (fun g7 => ?_)
     ·replace h := bif_t h g7
      obtain ⟨r21_2, g5, h⟩ := bind_some' h
      refine Vg hT (fT 2 (rcube_ok n r21_2) fN) [] [] [] (rfraction_j2_E l0 l1 y5_5 i6_1 r21_2) (aP g5 aN) ?_
      exact ⟨_, rfl, h⟩
     ·replace h := bif_f h g7
      obtain ⟨r24_2, g6, h⟩ := bind_some' h
      refine Vg hT (fT 2 (rsquare_ok n r24_2) fN) [] [] [] (rfraction_j2_E l0 l1 y5_5 i6_1 r24_2) (aP g6 aN) ?_
      exact ⟨_, rfl, h⟩
  ·replace h := bif_f h g9
   refine Vc [] [] ⟨[(5, kY y5_5)], [], []⟩ (W_exit ?_)
   obtain ⟨g8, h⟩ := gd_some h
   refine Vgs hT fN [] [] [] ⟨[(4, kX ((y5_5 % (4294967296 : UInt64)).toUInt32))], [], []⟩ (aP g8 aN) ?_
   refine Vc [] [] (rfraction_R ((y5_5 % (4294967296 : UInt64)).toUInt32)) (W_ret ?_)
   exact ⟨.inl rfl, by cases h; rfl⟩
def rconstants_l1_E (r4 : List UInt64) (w2_1 : List UInt32) (i3_1 : Int) : S := ⟨[(1, kH 0), (2, kH 1), (3, kI i3_1)], [], [nq 96 r4, nw 55 w2_1]⟩
abbrev rconstants_l1_P (n : Nat) (r4 : List UInt64) (r : List UInt32) (fu : Nat) : S → Prop := fun s => ∃ (w2_1 : List UInt32), ∃ (i3_1 : Int), s = rconstants_l1_E r4 w2_1 i3_1 ∧ rconstants_l1 n r4 fu w2_1 i3_1 = some r
def rconstants_R (r : List UInt32) : S := ⟨[(0, kH 0)], [], [nw 55 r]⟩
def rconstants_ct (n : Nat) (r : List UInt32) : Ct := ct0 fun H => ([rconstants n = some r], shA H.length (kH 0), shH H.length [nw 55 r])
theorem rconstants_ok (n : Nat) (r : List UInt32) : FnOk Tryd.prog Tr 57 (rconstants_ct n r) := by
 refine fnok Tryd.func57 ?_
 refine HO_0 tabO_gr (rconstants_R r) [.tmp 0] [0] 18 Tryd.func57 fun w hG h => ?_
 unfold rconstants at h
 have hT := tabO_gr
 refine Vrs hT [] ⟨[], [], []⟩ ?_
 obtain ⟨r4, g1, h⟩ := bind_some' h
 refine Vgs hT (fT 0 (rprimes_ok n r4) fN) [] [] [0] ⟨[(1, kH 0)], [], [nq 96 r4]⟩ (aP g1 aN) ?_
 refine Vrs hT [0] ⟨[(1, kH 0), (2, .c (.nils))], [], [nq 96 r4]⟩ ?_
 refine W_seq ?_
 refine Vrs hT [0] ⟨[(1, kH 0), (2, .c (.nils)), (3, kI 0)], [], [nq 96 r4]⟩ ?_
 refine W_block ?_
 refine Vc [.nil 2 55 1 (.w [])] [0, 1] (rconstants_l1_E r4 [] 0) (W_lp ((rconstants_l1_P n r4 r)) n ⟨_, _, rfl, h⟩ ?_)
 rintro fu_l1 _ ⟨w2_1, i3_1, rfl, h⟩
 cases fu_l1 with
 | zero => cases h
 | succ fu_l1 =>
  refine ⟨fu_l1, rfl, ?_⟩
  rw [rconstants_l1] at h
  refine W_seq ?_
  refine Vrs hT [0, 1] ⟨[(1, kH 0), (2, kH 1), (3, kI i3_1), (6, kB (decide (i3_1 < (64 : Int))))], [], [nq 96 r4, nw 55 w2_1]⟩ ?_
  refine Vi ((decide (i3_1 < (64 : Int)))) (fun g7 => ?_) (fun g7 => ?_)
  ·replace h := bif_t h g7
   refine W_skip ?_
   refine W_seq ?_
   refine W_block ?_
   obtain ⟨g2, g3, h⟩ := gd2 h
   obtain ⟨r14_2, g4, h⟩ := bind_some' h
   obtain ⟨g5, h⟩ := gd_some h
   refine Vg hT (fT 5 (rfraction_ok n r14_2) fN) [] [] [0, 3] ⟨[(1, kH 0), (2, kH 1), (3, kI i3_1)], [], [nq 96 r4, nw 55 (w2_1 ++ [r14_2])]⟩ (aP g2 (aP g3 (aP g4 (aP g5 aN)))) ?_
   obtain ⟨g6, h⟩ := gd_some h
   refine Vg hT fN [] [] [0, 1] (rconstants_l1_E r4 (w2_1 ++ [r14_2]) (i3_1 + 1)) (aP g6 aN) ?_
   exact ⟨_, _, rfl, h⟩
  ·replace h := bif_f h g7
   refine Vc [] [1] ⟨[(2, kH 0)], [], [nw 55 w2_1]⟩ (W_exit ?_)
   refine Vrs hT [0] ⟨[(0, kH 0)], [], [nw 55 w2_1]⟩ ?_
   refine Vc [] [0] (rconstants_R w2_1) (W_ret ?_)
   exact ⟨.inl rfl, by cases h; rfl⟩
def refbegin_l1_E (r4 : List UInt64) (w2_1 : List UInt32) (i3_1 : Int) : S := ⟨[(0, kP 0 0), (1, kH 1), (2, kP 2 0), (3, kI i3_1)], [], [⟨.blk, 63, 1, 8, .w (List.replicate 8 0)⟩, nq 96 r4, ⟨.blk, 63, 1, 8, .w w2_1⟩]⟩
abbrev refbegin_l1_P (n : Nat) (r4 : List UInt64) (r : List UInt32) (fu : Nat) : S → Prop := fun s => ∃ (w2_1 : List UInt32), ∃ (i3_1 : Int), s = refbegin_l1_E r4 w2_1 i3_1 ∧ refbegin_l1 n r4 fu w2_1 i3_1 = some r
def refbegin_R (r : List UInt32) : S := ⟨[(0, kP 0 0)], [], [⟨.blk, 63, 1, 8, .w r⟩]⟩
def refbegin_ct (n : Nat) (r : List UInt32) : Ct := ct0 fun H => ([refbegin n = some r], shA H.length (.g 8 (.w r)), shH H.length [])
theorem refbegin_ok (n : Nat) (r : List UInt32) : FnOk Tryd.prog Tr 58 (refbegin_ct n r) := by
 refine fnok Tryd.func58 ?_
 refine HO_0 tabO_gr (refbegin_R r) [.cell 0 63] [] 17 Tryd.func58 fun w hG h => ?_
 unfold refbegin at h
 have hT := tabO_gr
 refine Vrs hT [0] ⟨[(0, kP 0 0)], [], [⟨.blk, 63, 1, 8, .w (List.replicate 8 0)⟩]⟩ ?_
 obtain ⟨r4, g1, h⟩ := bind_some' h
 refine Vgs hT (fT 0 (rprimes_ok n r4) fN) [] [] [0, 1] ⟨[(0, kP 0 0), (1, kH 1)], [], [⟨.blk, 63, 1, 8, .w (List.replicate 8 0)⟩, nq 96 r4]⟩ (aP g1 aN) ?_
 refine Vrs hT [0, 1, 2] ⟨[(0, kP 0 0), (1, kH 1), (2, kP 2 0)], [], [⟨.blk, 63, 1, 8, .w (List.replicate 8 0)⟩, nq 96 r4, ⟨.blk, 63, 1, 8, .w (List.replicate 8 0)⟩]⟩ ?_
 refine W_seq ?_
 refine Vrs hT [0, 1, 2] ⟨[(0, kP 0 0), (1, kH 1), (2, kP 2 0), (3, kI 0)], [], [⟨.blk, 63, 1, 8, .w (List.replicate 8 0)⟩, nq 96 r4, ⟨.blk, 63, 1, 8, .w (List.replicate 8 0)⟩]⟩ ?_
 refine W_block ?_
 refine Vc [] [0, 1, 2] (refbegin_l1_E r4 (List.replicate 8 0) 0) (W_lp ((refbegin_l1_P n r4 r)) n ⟨_, _, rfl, h⟩ ?_)
 rintro fu_l1 _ ⟨w2_1, i3_1, rfl, h⟩
 cases fu_l1 with
 | zero => cases h
 | succ fu_l1 =>
  refine ⟨fu_l1, rfl, ?_⟩
  rw [refbegin_l1] at h
  refine W_seq ?_
  refine Vrs hT [0, 1, 2] ⟨[(0, kP 0 0), (1, kH 1), (2, kP 2 0), (3, kI i3_1), (6, kB (decide (i3_1 < (8 : Int))))], [], [⟨.blk, 63, 1, 8, .w (List.replicate 8 0)⟩, nq 96 r4, ⟨.blk, 63, 1, 8, .w w2_1⟩]⟩ ?_
  refine Vi ((decide (i3_1 < (8 : Int)))) (fun g8 => ?_) (fun g8 => ?_)
  ·replace h := bif_t h g8
   refine W_skip ?_
   refine W_seq ?_
   refine W_block ?_
   obtain ⟨g2, g3, h⟩ := gd2 h
   obtain ⟨r14_2, g4, h⟩ := bind_some' h
   obtain ⟨g5, g6, h⟩ := gd2 h
   refine Vg hT (fT 5 (rfraction_ok n r14_2) fN) [] [] [0, 1, 2] ⟨[(0, kP 0 0), (1, kH 1), (2, kP 2 0), (3, kI i3_1)], [], [⟨.blk, 63, 1, 8, .w (List.replicate 8 0)⟩, nq 96 r4, ⟨.blk, 63, 1, 8, .w (w2_1.set i3_1.toNat r14_2)⟩]⟩ (aP g2 (aP g3 (aP g4 (aP g5 (aP g6 aN))))) ?_
   obtain ⟨g7, h⟩ := gd_some h
   refine Vg hT fN [] [] [0, 1, 2] (refbegin_l1_E r4 (w2_1.set i3_1.toNat r14_2) (i3_1 + 1)) (aP g7 aN) ?_
   exact ⟨_, _, rfl, h⟩
  ·replace h := bif_f h g8
   refine Vc [] [0, 2] ⟨[(0, kP 0 0), (2, kP 1 0)], [], [⟨.blk, 63, 1, 8, .w (List.replicate 8 0)⟩, ⟨.blk, 63, 1, 8, .w w2_1⟩]⟩ (W_exit ?_)
   refine Vrs hT [0] ⟨[(0, kP 0 0)], [], [⟨.blk, 63, 1, 8, .w w2_1⟩]⟩ ?_
   refine Vc [] [0] (refbegin_R w2_1) (W_ret ?_)
   exact ⟨.inl rfl, by cases h; rfl⟩
def made_R (r : List UInt32 × UInt32 × UInt32 × UInt32 × UInt32 × UInt32 × UInt32 × UInt32 × UInt32) : S := ⟨[(0, kP 0 0)], [], [⟨.blk, 65, 1, 9, .c [.wh 1, .s (.u32 r.2.1), .s (.u32 r.2.2.1), .s (.u32 r.2.2.2.1), .s (.u32 r.2.2.2.2.1), .s (.u32 r.2.2.2.2.2.1), .s (.u32 r.2.2.2.2.2.2.1), .s (.u32 r.2.2.2.2.2.2.2.1), .s (.u32 r.2.2.2.2.2.2.2.2)]⟩, nw 55 r.1]⟩
def made_ct (n : Nat) (r : List UInt32 × UInt32 × UInt32 × UInt32 × UInt32 × UInt32 × UInt32 × UInt32 × UInt32) : Ct := ct0 fun H => ([made n = some r], shA H.length (.g 9 (.c [.wh 0, .s (.u32 r.2.1), .s (.u32 r.2.2.1), .s (.u32 r.2.2.2.1), .s (.u32 r.2.2.2.2.1), .s (.u32 r.2.2.2.2.2.1), .s (.u32 r.2.2.2.2.2.2.1), .s (.u32 r.2.2.2.2.2.2.2.1), .s (.u32 r.2.2.2.2.2.2.2.2)])), shH H.length [nw 55 r.1])
theorem made_ok (n : Nat) (r : List UInt32 × UInt32 × UInt32 × UInt32 × UInt32 × UInt32 × UInt32 × UInt32 × UInt32) : FnOk Tryd.prog Tr 34 (made_ct n r) := by
 refine fnok Tryd.func34 ?_
 refine HO_0 tabO_gr (made_R r) [.cell 0 65] [1] 4 Tryd.func34 fun w hG h => ?_
 unfold made at h
 have hT := tabO_gr
 refine Vrs hT [0] ⟨[(0, kP 0 0)], [], [⟨.blk, 65, 1, 9, .c [.nils, .s (.u32 0), .s (.u32 0), .s (.u32 0), .s (.u32 0), .s (.u32 0), .s (.u32 0), .s (.u32 0), .s (.u32 0)]⟩]⟩ ?_
 obtain ⟨r1, g1, h⟩ := bind_some' h
 obtain ⟨r2, g2, h⟩ := bind_some' h
 refine Vgs hT (fT 0 (rconstants_ok n r1) (fT 1 (refbegin_ok n r2) fN)) [] [] [0, 1] ⟨[(0, kP 0 0)], [], [⟨.blk, 65, 1, 9, .c [.wh 1, .s (.u32 (r2.getD 0 0)), .s (.u32 (r2.getD 1 0)), .s (.u32 (r2.getD 2 0)), .s (.u32 (r2.getD 3 0)), .s (.u32 (r2.getD 4 0)), .s (.u32 (r2.getD 5 0)), .s (.u32 (r2.getD 6 0)), .s (.u32 (r2.getD 7 0))]⟩, nw 55 r1]⟩ (aP g1 (aP g2 aN)) ?_
 refine Vc [] [0, 1] (made_R (r1, (r2.getD 0 0), (r2.getD 1 0), (r2.getD 2 0), (r2.getD 3 0), (r2.getD 4 0), (r2.getD 5 0), (r2.getD 6 0), (r2.getD 7 0))) (W_ret ?_)
 exact ⟨.inl rfl, by cases h; rfl⟩
def refsum_l2_E (a0_0 : List UInt32) (a0_1_0 : UInt32) (a0_1_1 : UInt32) (a0_1_2 : UInt32) (a0_1_3 : UInt32) (a0_1_4 : UInt32) (a0_1_5 : UInt32) (a0_1_6 : UInt32) (a0_1_7 : UInt32) (a1 : List UInt8) (r17 : List UInt8) (w6_2 : List UInt32) (i7_2 : Int) (l8_8 : List UInt8) (i9_8 : Int) : S := ⟨[(2, kP 0 0), (5, kH 2), (6, kP 3 0), (7, kI i7_2), (8, kP 4 0), (9, kI i9_8)], [], [⟨.blk, 65, 1, 9, .c [.wh 1, .s (.u32 a0_1_0), .s (.u32 a0_1_1), .s (.u32 a0_1_2), .s (.u32 a0_1_3), .s (.u32 a0_1_4), .s (.u32 a0_1_5), .s (.u32 a0_1_6), .s (.u32 a0_1_7)]⟩, ow 55 a0_0, nb 5 (([] ++ a1) ++ r17), ⟨.blk, 63, 1, 8, .w w6_2⟩, ⟨.blk, 88, 1, 64, .b l8_8⟩]⟩
abbrev refsum_l2_P (n : Nat) (a0_0 : List UInt32) (a0_1_0 : UInt32) (a0_1_1 : UInt32) (a0_1_2 : UInt32) (a0_1_3 : UInt32) (a0_1_4 : UInt32) (a0_1_5 : UInt32) (a0_1_6 : UInt32) (a0_1_7 : UInt32) (a1 : List UInt8) (r17 : List UInt8) (w6_2 : List UInt32) (i7_2 : Int) (k_l1 : (List UInt32) → Int → Option (List UInt8)) (r : List UInt8) (fu : Nat) : S → Prop := fun s => ∃ (l8_8 : List UInt8), ∃ (i9_8 : Int), s = refsum_l2_E a0_0 a0_1_0 a0_1_1 a0_1_2 a0_1_3 a0_1_4 a0_1_5 a0_1_6 a0_1_7 a1 r17 w6_2 i7_2 l8_8 i9_8 ∧ refsum_l2 n a0_0 a0_1_0 a0_1_1 a0_1_2 a0_1_3 a0_1_4 a0_1_5 a0_1_6 a0_1_7 a1 r17 w6_2 i7_2 k_l1 fu l8_8 i9_8 = some r
def refsum_l3_E (w6_2 : List UInt32) (l10_2 : List UInt8) (i11_2 : Int) : S := ⟨[(6, kP 0 0), (10, kH 1), (11, kI i11_2)], [], [⟨.blk, 63, 1, 8, .w w6_2⟩, nb 5 l10_2]⟩
abbrev refsum_l3_P (n : Nat) (w6_2 : List UInt32) (r : List UInt8) (fu : Nat) : S → Prop := fun s => ∃ (l10_2 : List UInt8), ∃ (i11_2 : Int), s = refsum_l3_E w6_2 l10_2 i11_2 ∧ refsum_l3 n w6_2 fu l10_2 i11_2 = some r
def refsum_l1_E (a0_0 : List UInt32) (a0_1_0 : UInt32) (a0_1_1 : UInt32) (a0_1_2 : UInt32) (a0_1_3 : UInt32) (a0_1_4 : UInt32) (a0_1_5 : UInt32) (a0_1_6 : UInt32) (a0_1_7 : UInt32) (a1 : List UInt8) (r17 : List UInt8) (w6_2 : List UInt32) (i7_2 : Int) : S := ⟨[(2, kP 0 0), (5, kH 2), (6, kP 3 0), (7, kI i7_2)], [], [⟨.blk, 65, 1, 9, .c [.wh 1, .s (.u32 a0_1_0), .s (.u32 a0_1_1), .s (.u32 a0_1_2), .s (.u32 a0_1_3), .s (.u32 a0_1_4), .s (.u32 a0_1_5), .s (.u32 a0_1_6), .s (.u32 a0_1_7)]⟩, ow 55 a0_0, nb 5 (([] ++ a1) ++ r17), ⟨.blk, 63, 1, 8, .w w6_2⟩]⟩
abbrev refsum_l1_P (n : Nat) (a0_0 : List UInt32) (a0_1_0 : UInt32) (a0_1_1 : UInt32) (a0_1_2 : UInt32) (a0_1_3 : UInt32) (a0_1_4 : UInt32) (a0_1_5 : UInt32) (a0_1_6 : UInt32) (a0_1_7 : UInt32) (a1 : List UInt8) (r17 : List UInt8) (r : List UInt8) (fu : Nat) : S → Prop := fun s => ∃ (w6_2 : List UInt32), ∃ (i7_2 : Int), s = refsum_l1_E a0_0 a0_1_0 a0_1_1 a0_1_2 a0_1_3 a0_1_4 a0_1_5 a0_1_6 a0_1_7 a1 r17 w6_2 i7_2 ∧ refsum_l1 n a0_0 a0_1_0 a0_1_1 a0_1_2 a0_1_3 a0_1_4 a0_1_5 a0_1_6 a0_1_7 a1 r17 fu w6_2 i7_2 = some r
def refsum_R (r : List UInt8) : S := ⟨[(4, kH 0)], [], [nb 5 r]⟩
def refsum_ct (n : Nat) (r : List UInt8) : Ct := ctc (rSt (lC (cW 55) (lC cU32 (lC cU32 (lC cU32 (lC cU32 (lC cU32 (lC cU32 (lC cU32 (lC cU32 lN)))))))))).rd fun _ y0 => ctc (rB 5).rd fun _ l1 => ct0 fun H => ([refsum n y0.1 y0.2.1 y0.2.2.1 y0.2.2.2.1 y0.2.2.2.2.1 y0.2.2.2.2.2.1 y0.2.2.2.2.2.2.1 y0.2.2.2.2.2.2.2.1 y0.2.2.2.2.2.2.2.2.1 l1 = some r], shA H.length (kH 0), shH H.length [nb 5 r])
theorem refsum_ok (n : Nat) (r : List UInt8) : FnOk Tryd.prog Tr 35 (refsum_ct n r) := by
 refine fnok Tryd.func35 ?_
 refine HO_c (rSt (lC (cW 55) (lC cU32 (lC cU32 (lC cU32 (lC cU32 (lC cU32 (lC cU32 (lC cU32 (lC cU32 lN)))))))))) fun p0 _ => ?_
 obtain ⟨l0_0, l0_1, l0_2, l0_3, l0_4, l0_5, l0_6, l0_7, l0_8, _⟩ := p0
 refine HO_c (rB 5) fun l1 _ => HO_0 tabO_gr (refsum_R r) [.tmp 4] [0] 71 Tryd.func35 fun w hG h => ?_
 have h : refsum n l0_0 l0_1 l0_2 l0_3 l0_4 l0_5 l0_6 l0_7 l0_8 l1 = some r := h
 unfold refsum at h
 have hT := tabO_gr
 refine Vrs hT [1, 2, 0] ⟨[(1, kH 0), (2, kP 1 0)], [], [ob 5 l1, ⟨.blk, 65, 1, 9, .c [.wh 2, .s (.u32 l0_1), .s (.u32 l0_2), .s (.u32 l0_3), .s (.u32 l0_4), .s (.u32 l0_5), .s (.u32 l0_6), .s (.u32 l0_7), .s (.u32 l0_8)]⟩, ow 55 l0_0]⟩ ?_
 obtain ⟨g1, h⟩ := gd_some h
 obtain ⟨r17, g2, h⟩ := bind_some' h
 obtain ⟨g3, h⟩ := gd_some h
 refine Vgs hT (fT 5 (htail_ok n r17) fN) [] [] [1, 2, 6] ⟨[(2, kP 0 0), (5, kH 2)], [], [⟨.blk, 65, 1, 9, .c [.wh 1, .s (.u32 l0_1), .s (.u32 l0_2), .s (.u32 l0_3), .s (.u32 l0_4), .s (.u32 l0_5), .s (.u32 l0_6), .s (.u32 l0_7), .s (.u32 l0_8)]⟩, ow 55 l0_0, nb 5 (([] ++ l1) ++ r17)]⟩ (aP g1 (aP g2 (aP g3 aN))) ?_
 obtain ⟨g4, h⟩ := gd_some h
 refine Vgs hT fN [] [] [0, 1, 2, 3] ⟨[(2, kP 0 0), (5, kH 2), (6, kP 3 0)], [], [⟨.blk, 65, 1, 9, .c [.wh 1, .s (.u32 l0_1), .s (.u32 l0_2), .s (.u32 l0_3), .s (.u32 l0_4), .s (.u32 l0_5), .s (.u32 l0_6), .s (.u32 l0_7), .s (.u32 l0_8)]⟩, ow 55 l0_0, nb 5 (([] ++ l1) ++ r17), ⟨.blk, 63, 1, 8, .c [.s (.u32 l0_1), .s (.u32 l0_2), .s (.u32 l0_3), .s (.u32 l0_4), .s (.u32 l0_5), .s (.u32 l0_6), .s (.u32 l0_7), .s (.u32 l0_8)]⟩]⟩ (aP g4 aN) ?_
 refine W_seq ?_
 refine Vrs hT [0, 1, 2, 3] ⟨[(2, kP 0 0), (5, kH 2), (6, kP 3 0), (7, kI 0)], [], [⟨.blk, 65, 1, 9, .c [.wh 1, .s (.u32 l0_1), .s (.u32 l0_2), .s (.u32 l0_3), .s (.u32 l0_4), .s (.u32 l0_5), .s (.u32 l0_6), .s (.u32 l0_7), .s (.u32 l0_8)]⟩, ow 55 l0_0, nb 5 (([] ++ l1) ++ r17), ⟨.blk, 63, 1, 8, .c [.s (.u32 l0_1), .s (.u32 l0_2), .s (.u32 l0_3), .s (.u32 l0_4), .s (.u32 l0_5), .s (.u32 l0_6), .s (.u32 l0_7), .s (.u32 l0_8)]⟩]⟩ ?_
 refine W_block ?_
 refine Vc [.ty 3] [0, 1, 2, 3] (refsum_l1_E l0_0 l0_1 l0_2 l0_3 l0_4 l0_5 l0_6 l0_7 l0_8 l1 r17 [l0_1, l0_2, l0_3, l0_4, l0_5, l0_6, l0_7, l0_8] 0) (W_lp ((refsum_l1_P n l0_0 l0_1 l0_2 l0_3 l0_4 l0_5 l0_6 l0_7 l0_8 l1 r17 r)) n ⟨_, _, rfl, h⟩ ?_)
 rintro fu_l1 _ ⟨w6_2, i7_2, rfl, h⟩
 cases fu_l1 with
 | zero => cases h
 | succ fu_l1 =>
  refine ⟨fu_l1, rfl, ?_⟩
  rw [refsum_l1] at h
  refine W_seq ?_
  refine Vrs hT [0, 1, 2, 3] ⟨[(2, kP 0 0), (5, kH 2), (6, kP 3 0), (7, kI i7_2), (24, kB (decide (i7_2 < (((([] ++ l1) ++ r17).length : Nat) : Int))))], [], [⟨.blk, 65, 1, 9, .c [.wh 1, .s (.u32 l0_1), .s (.u32 l0_2), .s (.u32 l0_3), .s (.u32 l0_4), .s (.u32 l0_5), .s (.u32 l0_6), .s (.u32 l0_7), .s (.u32 l0_8)]⟩, ow 55 l0_0, nb 5 (([] ++ l1) ++ r17), ⟨.blk, 63, 1, 8, .w w6_2⟩]⟩ ?_
  refine Vi ((decide (i7_2 < (((([] ++ l1) ++ r17).length : Nat) : Int)))) (fun g28 => ?_) (fun g28 => ?_)
  ·replace h := bif_t h g28
   refine W_skip ?_
   refine W_seq ?_
   refine W_block ?_
   refine Vrs hT [0, 1, 2, 3, 4] ⟨[(2, kP 0 0), (5, kH 2), (6, kP 3 0), (7, kI i7_2), (8, kP 4 0)], [], [⟨.blk, 65, 1, 9, .c [.wh 1, .s (.u32 l0_1), .s (.u32 l0_2), .s (.u32 l0_3), .s (.u32 l0_4), .s (.u32 l0_5), .s (.u32 l0_6), .s (.u32 l0_7), .s (.u32 l0_8)]⟩, ow 55 l0_0, nb 5 (([] ++ l1) ++ r17), ⟨.blk, 63, 1, 8, .w w6_2⟩, ⟨.blk, 88, 1, 64, .b (List.replicate 64 0)⟩]⟩ ?_
   refine W_seq ?_
   refine Vrs hT [0, 1, 2, 3, 4] ⟨[(2, kP 0 0), (5, kH 2), (6, kP 3 0), (7, kI i7_2), (8, kP 4 0), (9, kI 0)], [], [⟨.blk, 65, 1, 9, .c [.wh 1, .s (.u32 l0_1), .s (.u32 l0_2), .s (.u32 l0_3), .s (.u32 l0_4), .s (.u32 l0_5), .s (.u32 l0_6), .s (.u32 l0_7), .s (.u32 l0_8)]⟩, ow 55 l0_0, nb 5 (([] ++ l1) ++ r17), ⟨.blk, 63, 1, 8, .w w6_2⟩, ⟨.blk, 88, 1, 64, .b (List.replicate 64 0)⟩]⟩ ?_
   refine W_block ?_
   refine Vc [] [0, 1, 2, 3, 4] (refsum_l2_E l0_0 l0_1 l0_2 l0_3 l0_4 l0_5 l0_6 l0_7 l0_8 l1 r17 w6_2 i7_2 (List.replicate 64 0) 0) (W_lp ((refsum_l2_P n l0_0 l0_1 l0_2 l0_3 l0_4 l0_5 l0_6 l0_7 l0_8 l1 r17 w6_2 i7_2 (refsum_l1 n l0_0 l0_1 l0_2 l0_3 l0_4 l0_5 l0_6 l0_7 l0_8 l1 r17 fu_l1) r)) n ⟨_, _, rfl, h⟩ ?_)
   rintro fu_l2 _ ⟨l8_8, i9_8, rfl, h⟩
   cases fu_l2 with
   | zero => cases h
   | succ fu_l2 =>
    refine ⟨fu_l2, rfl, ?_⟩
    rw [refsum_l2] at h
    refine W_seq ?_
    refine Vrs hT [0, 1, 2, 3, 4] ⟨[(2, kP 0 0), (5, kH 2), (6, kP 3 0), (7, kI i7_2), (8, kP 4 0), (9, kI i9_8), (28, kB (decide (i9_8 < (64 : Int))))], [], [⟨.blk, 65, 1, 9, .c [.wh 1, .s (.u32 l0_1), .s (.u32 l0_2), .s (.u32 l0_3), .s (.u32 l0_4), .s (.u32 l0_5), .s (.u32 l0_6), .s (.u32 l0_7), .s (.u32 l0_8)]⟩, ow 55 l0_0, nb 5 (([] ++ l1) ++ r17), ⟨.blk, 63, 1, 8, .w w6_2⟩, ⟨.blk, 88, 1, 64, .b l8_8⟩]⟩ ?_
    refine Vi ((decide (i9_8 < (64 : Int)))) (fun g13 => ?_) (fun g13 => ?_)
    ·replace h := bif_t h g13
     refine W_skip ?_
     refine W_seq ?_
     refine W_block ?_
     obtain ⟨g5, g6, g7, g8, g9, h⟩ := gd5 h
     refine Vg hT fN [] [] [0, 1, 2, 3, 4] ⟨[(2, kP 0 0), (5, kH 2), (6, kP 3 0), (7, kI i7_2), (8, kP 4 0), (9, kI i9_8)], [], [⟨.blk, 65, 1, 9, .c [.wh 1, .s (.u32 l0_1), .s (.u32 l0_2), .s (.u32 l0_3), .s (.u32 l0_4), .s (.u32 l0_5), .s (.u32 l0_6), .s (.u32 l0_7), .s (.u32 l0_8)]⟩, ow 55 l0_0, nb 5 (([] ++ l1) ++ r17), ⟨.blk, 63, 1, 8, .w w6_2⟩, ⟨.blk, 88, 1, 64, .b (l8_8.set i9_8.toNat ((([] ++ l1) ++ r17).getD ((i7_2 + i9_8).toNat) 0))⟩]⟩ (aP g5 (aP g6 (aP g7 (aP g8 (aP g9 aN))))) ?_
     obtain ⟨g10, h⟩ := gd_some h
     refine Vg hT fN [] [] [0, 1, 2, 3, 4] (refsum_l2_E l0_0 l0_1 l0_2 l0_3 l0_4 l0_5 l0_6 l0_7 l0_8 l1 r17 w6_2 i7_2 (l8_8.set i9_8.toNat ((([] ++ l1) ++ r17).getD ((i7_2 + i9_8).toNat) 0)) (i9_8 + 1)) (aP g10 aN) ?_
     exact ⟨_, _, rfl, h⟩
    ·replace h := bif_f h g13
     refine Vc [] [0, 1, 2, 3, 4] ⟨[(2, kP 0 0), (5, kH 2), (6, kP 3 0), (7, kI i7_2), (8, kP 4 0)], [], [⟨.blk, 65, 1, 9, .c [.wh 1, .s (.u32 l0_1), .s (.u32 l0_2), .s (.u32 l0_3), .s (.u32 l0_4), .s (.u32 l0_5), .s (.u32 l0_6), .s (.u32 l0_7), .s (.u32 l0_8)]⟩, ow 55 l0_0, nb 5 (([] ++ l1) ++ r17), ⟨.blk, 63, 1, 8, .w w6_2⟩, ⟨.blk, 88, 1, 64, .b l8_8⟩]⟩ (W_exit ?_)
     obtain ⟨r43_8, g11, h⟩ := bind_some' h
     refine Vg hT (fT 4 (hpress_ok n r43_8) fN) [] [] [0, 1, 2, 3] ⟨[(2, kP 0 0), (5, kH 2), (6, kP 3 0), (7, kI i7_2)], [], [⟨.blk, 65, 1, 9, .c [.wh 1, .s (.u32 l0_1), .s (.u32 l0_2), .s (.u32 l0_3), .s (.u32 l0_4), .s (.u32 l0_5), .s (.u32 l0_6), .s (.u32 l0_7), .s (.u32 l0_8)]⟩, ow 55 l0_0, nb 5 (([] ++ l1) ++ r17), ⟨.blk, 63, 1, 8, .w r43_8⟩]⟩ (aP g11 aN) ?_
     obtain ⟨g12, h⟩ := gd_some h
     refine Vg hT fN [] [] [0, 1, 2, 3] (refsum_l1_E l0_0 l0_1 l0_2 l0_3 l0_4 l0_5 l0_6 l0_7 l0_8 l1 r17 r43_8 (i7_2 + 64)) (aP g12 aN) ?_
     exact ⟨_, _, rfl, h⟩
  ·replace h := bif_f h g28
   refine Vc [] [3] ⟨[(6, kP 0 0)], [], [⟨.blk, 63, 1, 8, .w w6_2⟩]⟩ (W_exit ?_)
   refine Vrs hT [0] ⟨[(6, kP 0 0), (10, .c (.nils))], [], [⟨.blk, 63, 1, 8, .w w6_2⟩]⟩ ?_
   refine W_seq ?_
   refine Vrs hT [0] ⟨[(6, kP 0 0), (10, .c (.nils)), (11, kI 0)], [], [⟨.blk, 63, 1, 8, .w w6_2⟩]⟩ ?_
   refine W_block ?_
   refine Vc [.nil 10 5 1 (.b [])] [0, 1] (refsum_l3_E w6_2 [] 0) (W_lp ((refsum_l3_P n w6_2 r)) n ⟨_, _, rfl, h⟩ ?_)
   rintro fu_l3 _ ⟨l10_2, i11_2, rfl, h⟩
   cases fu_l3 with
   | zero => cases h
   | succ fu_l3 =>
    refine ⟨fu_l3, rfl, ?_⟩
    rw [refsum_l3] at h
    refine W_seq ?_
    refine Vrs hT [0, 1] ⟨[(6, kP 0 0), (10, kH 1), (11, kI i11_2), (45, kB (decide (i11_2 < (8 : Int))))], [], [⟨.blk, 63, 1, 8, .w w6_2⟩, nb 5 l10_2]⟩ ?_
    refine Vi ((decide (i11_2 < (8 : Int)))) (fun g27 => ?_) (fun g27 => ?_)
    ·replace h := bif_t h g27
     refine W_skip ?_
     refine W_seq ?_
     refine W_block ?_
     obtain ⟨g14, g15, g16, g17, g18, h⟩ := gd5 h
     obtain ⟨g19, g20, g21, g22, g23, h⟩ := gd5 h
     obtain ⟨g24, g25, h⟩ := gd2 h
     refine Vd hT fN 21 [] [(6, false), (10, false), (11, false), (48, false), (68, false)] [] [0, 3] ⟨[(6, kP 0 0), (10, kH 1), (11, kI i11_2)], [], [⟨.blk, 63, 1, 8, .w w6_2⟩, nb 5 (l10_2 ++ [((w6_2.getD i11_2.toNat 0) / (16777216 : UInt32)).toUInt8, ((w6_2.getD i11_2.toNat 0) / (65536 : UInt32)).toUInt8, ((w6_2.getD i11_2.toNat 0) / (256 : UInt32)).toUInt8, (w6_2.getD i11_2.toNat 0).toUInt8])]⟩ (aP g14 (aP g15 (aP g16 (aP g17 (aP g18 (aP g19 (aP g20 (aP g21 (aP g22 (aP g23 (aP g24 (aP g25 aN)))))))))))) ?_
     obtain ⟨g26, h⟩ := gd_some h
     refine Vg hT fN [] [] [0, 1] (refsum_l3_E w6_2 (l10_2 ++ [((w6_2.getD i11_2.toNat 0) / (16777216 : UInt32)).toUInt8, ((w6_2.getD i11_2.toNat 0) / (65536 : UInt32)).toUInt8, ((w6_2.getD i11_2.toNat 0) / (256 : UInt32)).toUInt8, (w6_2.getD i11_2.toNat 0).toUInt8]) (i11_2 + 1)) (aP g26 aN) ?_
     exact ⟨_, _, rfl, h⟩
    ·replace h := bif_f h g27
     refine Vc [] [1] ⟨[(10, kH 0)], [], [nb 5 l10_2]⟩ (W_exit ?_)
     refine Vrs hT [0] ⟨[(4, kH 0)], [], [nb 5 l10_2]⟩ ?_
     refine Vc [] [0] (refsum_R l10_2) (W_ret ?_)
     exact ⟨.inl rfl, by cases h; rfl⟩
end Go.Proofs.YthichmclbiggmaaDoor
end
section
namespace Go.Proofs.YthichmclbiggmaaDoor
open Go.RowKit Go.Ch Go.Sx
def tabL_df : List (TypeId × Ti) := [(3, ⟨.int .i64, 1, 8, true, some [.int .i64]⟩),
 (5, ⟨.int .u8, 1, 1, true, some [.int .u8]⟩),
 (23, ⟨.sl 55, 1, 24, false, some [.nils]⟩),
 (25, ⟨.st [(23, 0), (23, 1), (23, 2)], 3, 72, false, some [.nils, .nils, .nils]⟩),
 (26, ⟨.sl 5, 1, 24, false, some [.nils]⟩),
 (40, ⟨.st [(23, 0), (23, 1)], 2, 48, false, some [.nils, .nils]⟩),
 (49, ⟨.sl 3, 1, 24, false, some [.nils]⟩),
 (55, ⟨.int .u32, 1, 4, true, some [.int .u32]⟩)]
def tab_df : Tab := fun t => (tabL_df).lookup t
theorem tabE_df : (tabL_df.map fun p => tiOf Tryd.prog p.1) = tabL_df.map fun p => some p.2 := by kernel_rfl
theorem tabO_df : TabOk Tryd.prog tab_df := tab_of tabE_df
def qodd (n : Nat) (a0 : List Int) : Option (Bool) :=
 bif (decide ((0 : Int) < ((a0.length : Nat) : Int))) then
 gd (0 ≤ (0 : Int)) <|
 gd ((0 : Int) < ((a0.length : Nat) : Int)) <|
 gd ((2 : Int) ≠ 0) <|
 some ((Int.tmod (a0.getD 0 0) 2) == 1)
 else
 some false
def qPublic (n : Nat) (a0_0 : List UInt32) (a0_1 : List UInt32) : Option (Bool) :=
 (rOf n a0_0).bind fun r9 =>
 (rOf n a0_1).bind fun r12 =>
 (rSize n r9.1).bind fun r14 =>
 bif (decide ((62 : Int) ≤ r14)) then
  bif (decide (r14 ≤ (128 : Int))) then
   (qodd n r9.1).bind fun r24 =>
   bif r24 then
    (qodd n r12.1).bind fun r28 =>
    bif r28 then
     (rCmp n r12.1 [3]).bind fun r33 =>
     bif (decide ((0 : Int) ≤ r33)) then
      (rCmp n r12.1 r9.1).bind fun r39 =>
      some (decide (r39 < (0 : Int)))
     else
      some false
    else
     some false
   else
    some false
  else
   some false
 else
  some false
def qSize (n : Nat) (a0 : List UInt32) : Option (Int) :=
 (rOf n a0).bind fun r4 =>
 (rSize n r4.1).bind fun r5 =>
 some r5
def qPower (n : Nat) (a0 : List UInt8) (a1 : List UInt32) (a2 : List UInt32) : Option (List UInt8 × Nat × Bool) :=
 (rOf n a2).bind fun r11 =>
 (rBytes n a0).bind fun r13 =>
 (rSize n r11.1).bind fun r17 =>
 bif (((a0.length : Nat) : Int) != r17) then
  some ([], 0, false)
 else
  (rCmp n r13.1 r11.1).bind fun r22 =>
  bif (decide ((0 : Int) ≤ r22)) then
   some ([], 0, false)
  else
   (rOf n a1).bind fun r27 =>
   (rExp n r13.1 r27.1 r11.1).bind fun r29 =>
   (rWrite n r29.1 ((a0.length : Nat) : Int)).bind fun r32 =>
   some (r32.1, r32.2.1, r32.2.2)
def qLaid_l1 (n : Nat) (a0 : List UInt8) (a1 : Int) : Nat → List UInt8 → Int → Option (List UInt8)
 | 0, _, _ => none
 | fu_l1 + 1, l5_2, i6_2 =>
  gd (okI .i64 (a1 - 54)) <|
  bif (decide (i6_2 < (a1 - 54))) then
   gd (rmB (l5_2.length + 1) 1) <|
   gd (okI .i64 (i6_2 + 1)) <|
   (qLaid_l1 n a0 a1 fu_l1) (l5_2 ++ [255]) (i6_2 + 1)
  else
   gd (rmB (l5_2.length + 20) 1) <|
   (made n).bind fun r21 =>
   (refsum n r21.1 r21.2.1 r21.2.2.1 r21.2.2.2.1 r21.2.2.2.2.1 r21.2.2.2.2.2.1 r21.2.2.2.2.2.2.1 r21.2.2.2.2.2.2.2.1 r21.2.2.2.2.2.2.2.2 a0).bind fun r23 =>
   gd (rmB (((l5_2 ++ [0, 48, 49, 48, 13, 6, 9, 96, 134, 72, 1, 101, 3, 4, 2, 1, 5, 0, 4, 32]).length) + r23.length) 1) <|
   some ((l5_2 ++ [0, 48, 49, 48, 13, 6, 9, 96, 134, 72, 1, 101, 3, 4, 2, 1, 5, 0, 4, 32]) ++ r23)
def qLaid (n : Nat) (a0 : List UInt8) (a1 : Int) : Option (List UInt8) :=
 qLaid_l1 n a0 a1 n [0, 1] 0
def qodd_R (r : Bool) : S := ⟨[(2, kB r)], [], []⟩
def qodd_ct (n : Nat) (r : Bool) : Ct := ctc (rZ 3).rd fun _ l0 => ct0 fun H => ([qodd n l0 = some r], shA H.length (kB r), shH H.length [])
theorem qodd_ok (n : Nat) (r : Bool) : FnOk Tryd.prog Tr 37 (qodd_ct n r) := by
 refine fnok Tryd.func37 ?_
 refine HO_c (rZ 3) fun l0 _ => HO_0 tabO_df (qodd_R r) [.tmp 2] [] 13 Tryd.func37 fun w hG h => ?_
 unfold qodd at h
 have hT := tabO_df
 refine Vrs hT [0] ⟨[(0, kH 0)], [], [oz 3 l0]⟩ ?_
 refine W_seq ?_
 rcases Bool.eq_false_or_eq_true (decide ((0 : Int) < ((l0.length : Nat) : Int))) with g1 | g1
 ·replace h := bif_t h g1
  obtain ⟨g2, g3, g4, h⟩ := gd3 h
  refine Vg hT fN [(3, true)] [] [] ⟨[(2, kB ((Int.tmod (l0.getD 0 0) 2) == 1))], [], []⟩ (aP g1 (aP g2 (aP g3 (aP g4 aN)))) ?_
  refine Vc [] [] (qodd_R ((Int.tmod (l0.getD 0 0) 2) == 1)) (W_ret ?_)
  exact ⟨.inl rfl, by cases h; rfl⟩
 ·replace h := bif_f h g1
  refine Vg hT fN [(3, false)] [] [] ⟨[(2, kB false)], [], []⟩ (aP g1 aN) ?_
  refine Vc [] [] (qodd_R false) (W_ret ?_)
  exact ⟨.inl rfl, by cases h; rfl⟩
def qPublic_R (r : Bool) : S := ⟨[(2, kB r)], [], []⟩
def qPublic_ct (n : Nat) (r : Bool) : Ct := ctc (rSt (lC (cW 55) (lC (cW 55) lN))).rd fun _ y0 => ct0 fun H => ([qPublic n y0.1 y0.2.1 = some r], shA H.length (kB r), shH H.length [])
theorem qPublic_ok (n : Nat) (r : Bool) : FnOk Tryd.prog Tr 17 (qPublic_ct n r) := by
 refine fnok Tryd.func17 ?_
 refine HO_c (rSt (lC (cW 55) (lC (cW 55) lN))) fun p0 _ => ?_
 obtain ⟨l0_0, l0_1, _⟩ := p0
 refine HO_0 tabO_df (qPublic_R r) [.tmp 2] [] 42 Tryd.func17 fun w hG h => ?_
 have h : qPublic n l0_0 l0_1 = some r := h
 unfold qPublic at h
 have hT := tabO_df
 refine Vrs hT [2, 0, 1] ⟨[(1, kP 0 0)], [], [⟨.blk, 40, 1, 2, .c [.wh 1, .wh 2]⟩, ow 55 l0_0, ow 55 l0_1]⟩ ?_
 obtain ⟨r9, g1, h⟩ := bind_some' h
 refine Vgs hT (fT 2 (rOf_ok n r9) fN) [] [] [0, 1, 2, 3] ⟨[(1, kP 0 0), (3, kH 3)], [], [⟨.blk, 40, 1, 2, .c [.wh 1, .wh 2]⟩, ow 55 l0_0, ow 55 l0_1, ⟨(.ro true), 3, 1, r9.2, .z r9.1⟩]⟩ (aP g1 aN) ?_
 obtain ⟨r12, g2, h⟩ := bind_some' h
 refine Vgs hT (fT 2 (rOf_ok n r12) fN) [] [] [3, 4] ⟨[(3, kH 0), (4, kH 1)], [], [⟨(.ro true), 3, 1, r9.2, .z r9.1⟩, ⟨(.ro true), 3, 1, r12.2, .z r12.1⟩]⟩ (aP g2 aN) ?_
 obtain ⟨r14, g3, h⟩ := bind_some' h
 refine Vgs hT (fT 1 (rSize_ok n r14) fN) [] [] [0, 1] ⟨[(3, kH 0), (4, kH 1), (5, kI r14)], [], [⟨(.ro true), 3, 1, r9.2, .z r9.1⟩, ⟨(.ro true), 3, 1, r12.2, .z r12.1⟩]⟩ (aP g3 aN) ?_
 refine Vrs hT [0, 1, 2] ⟨[(3, kH 0), (4, kH 1), (5, kI r14), (6, kH 2)], [], [⟨(.ro true), 3, 1, r9.2, .z r9.1⟩, ⟨(.ro true), 3, 1, r12.2, .z r12.1⟩, ⟨.row, 3, 1, 1, .z [3]⟩]⟩ ?_
 refine W_seq ?_
 rcases Bool.eq_false_or_eq_true (decide ((62 : Int) ≤ r14)) with g4 | g4
 ·replace h := bif_t h g4
  rcases Bool.eq_false_or_eq_true (decide (r14 ≤ (128 : Int))) with g5 | g5
  ·replace h := bif_t h g5
   obtain ⟨r24, g6, h⟩ := bind_some' h
   rcases Bool.eq_false_or_eq_true r24 with g7 | g7
   ·replace h := bif_t h g7
    obtain ⟨r28, g8, h⟩ := bind_some' h
    rcases Bool.eq_false_or_eq_true r28 with g9 | g9
    ·replace h := bif_t h g9
     obtain ⟨r33, g10, h⟩ := bind_some' h
     rcases Bool.eq_false_or_eq_true (decide ((0 : Int) ≤ r33)) with g11 | g11
     ·replace h := bif_t h g11
      obtain ⟨r39, g12, h⟩ := bind_some' h
      refine Vg hT (fT 8 (qodd_ok n r24) (fT 12 (qodd_ok n r28) (fT 17 (rCmp_ok n r33) (fT 23 (rCmp_ok n r39) fN)))) [(2, true), (6, true), (10, true), (14, true), (20, true)] [] [] ⟨[(2, kB (decide (r39 < (0 : Int))))], [], []⟩ (aP g4 (aP g5 (aP g6 (aP g7 (aP g8 (aP g9 (aP g10 (aP g11 (aP g12 aN))))))))) ?_
      refine Vc [] [] (qPublic_R (decide (r39 < (0 : Int)))) (W_ret ?_)
      exact ⟨.inl rfl, by cases h; rfl⟩
     ·replace h := bif_f h g11
      refine Vg hT (fT 8 (qodd_ok n r24) (fT 12 (qodd_ok n r28) (fT 17 (rCmp_ok n r33) fN))) [(2, true), (6, true), (10, true), (14, true), (20, false)] [] [] ⟨[(2, kB false)], [], []⟩ (aP g4 (aP g5 (aP g6 (aP g7 (aP g8 (aP g9 (aP g10 (aP g11 aN)))))))) ?_
      refine Vc [] [] (qPublic_R false) (W_ret ?_)
      exact ⟨.inl rfl, by cases h; rfl⟩
    ·replace h := bif_f h g9
     refine Vg hT (fT 8 (qodd_ok n r24) (fT 12 (qodd_ok n r28) fN)) [(2, true), (6, true), (10, true), (14, false)] [] [] ⟨[(2, kB false)], [], []⟩ (aP g4 (aP g5 (aP g6 (aP g7 (aP g8 (aP g9 aN)))))) ?_
     refine Vc [] [] (qPublic_R false) (W_ret ?_)
     exact ⟨.inl rfl, by cases h; rfl⟩
   ·replace h := bif_f h g7
    refine Vg hT (fT 8 (qodd_ok n r24) fN) [(2, true), (6, true), (10, false)] [] [] ⟨[(2, kB false)], [], []⟩ (aP g4 (aP g5 (aP g6 (aP g7 aN)))) ?_
    refine Vc [] [] (qPublic_R false) (W_ret ?_)
    exact ⟨.inl rfl, by cases h; rfl⟩
  ·replace h := bif_f h g5
   refine Vg hT fN [(2, true), (6, false)] [] [] ⟨[(2, kB false)], [], []⟩ (aP g4 (aP g5 aN)) ?_
   refine Vc [] [] (qPublic_R false) (W_ret ?_)
   exact ⟨.inl rfl, by cases h; rfl⟩
 ·replace h := bif_f h g4
  refine Vg hT fN [(2, false)] [] [] ⟨[(2, kB false)], [], []⟩ (aP g4 aN) ?_
  refine Vc [] [] (qPublic_R false) (W_ret ?_)
  exact ⟨.inl rfl, by cases h; rfl⟩
def qSize_R (r : Int) : S := ⟨[(2, kI r)], [], []⟩
def qSize_ct (n : Nat) (r : Int) : Ct := ctc (rW 55).rd fun _ l0 => ct0 fun H => ([qSize n l0 = some r], shA H.length (kI r), shH H.length [])
theorem qSize_ok (n : Nat) (r : Int) : FnOk Tryd.prog Tr 15 (qSize_ct n r) := by
 refine fnok Tryd.func15 ?_
 refine HO_c (rW 55) fun l0 _ => HO_0 tabO_df (qSize_R r) [.tmp 2] [] 6 Tryd.func15 fun w hG h => ?_
 unfold qSize at h
 have hT := tabO_df
 refine Vrs hT [0] ⟨[(0, kH 0)], [], [ow 55 l0]⟩ ?_
 obtain ⟨r4, g1, h⟩ := bind_some' h
 obtain ⟨r5, g2, h⟩ := bind_some' h
 refine Vgs hT (fT 1 (rOf_ok n r4) (fT 2 (rSize_ok n r5) fN)) [] [] [] ⟨[(2, kI r5)], [], []⟩ (aP g1 (aP g2 aN)) ?_
 refine Vc [] [] (qSize_R r5) (W_ret ?_)
 exact ⟨.inl rfl, by cases h; rfl⟩
def qPower_R (r : List UInt8 × Nat × Bool) : S := ⟨[(6, kH 0), (7, kB r.2.2)], [], [⟨.row, 5, 1, r.2.1, .b r.1⟩]⟩
def qPower_ct (n : Nat) (r : List UInt8 × Nat × Bool) : Ct := ctc (rB 5).rd fun _ l0 => ctc (rW 55).rd fun _ l1 => ctc (rW 55).rd fun _ l2 => ct0 fun H => ([qPower n l0 l1 l2 = some r], shA H.length (.t [.c (.wh 0), .c (.s (.b r.2.2))]), shH H.length [⟨.row, 5, 1, r.2.1, .b r.1⟩])
theorem qPower_ok (n : Nat) (r : List UInt8 × Nat × Bool) : FnOk Tryd.prog Tr 13 (qPower_ct n r) := by
 refine fnok Tryd.func13 ?_
 refine HO_c (rB 5) fun l0 _ => HO_c (rW 55) fun l1 _ => HO_c (rW 55) fun l2 _ => HO_0 tabO_df (qPower_R r) [.tmp 6, .tmp 7] [0] 35 Tryd.func13 fun w hG h => ?_
 unfold qPower at h
 have hT := tabO_df
 refine Vrs hT [0, 1, 2] ⟨[(0, kH 0), (1, kH 1), (2, kH 2)], [], [ob 5 l0, ow 55 l1, ow 55 l2]⟩ ?_
 obtain ⟨r11, g1, h⟩ := bind_some' h
 refine Vgs hT (fT 1 (rOf_ok n r11) fN) [] [] [0, 1, 3] ⟨[(0, kH 0), (1, kH 1), (8, kH 2)], [], [ob 5 l0, ow 55 l1, ⟨(.ro true), 3, 1, r11.2, .z r11.1⟩]⟩ (aP g1 aN) ?_
 obtain ⟨r13, g2, h⟩ := bind_some' h
 refine Vgs hT (fT 1 (rBytes_ok n r13) fN) [] [] [0, 1, 2, 3] ⟨[(0, kH 0), (1, kH 1), (8, kH 2), (9, kH 3)], [], [ob 5 l0, ow 55 l1, ⟨(.ro true), 3, 1, r11.2, .z r11.1⟩, ⟨(.ro true), 3, 1, r13.2, .z r13.1⟩]⟩ (aP g2 aN) ?_
 refine W_seq ?_
 refine W_seq ?_
 obtain ⟨r17, g3, h⟩ := bind_some' h
 rcases Bool.eq_false_or_eq_true (((l0.length : Nat) : Int) != r17) with g4 | g4
 ·replace h := bif_t h g4
  refine Vg hT (fT 3 (rSize_ok n r17) fN) [(5, true)] [] [0, 1, 2, 3] ⟨[(0, kH 0), (1, kH 1), (8, kH 2), (9, kH 3), (24, kB true)], [], [ob 5 l0, ow 55 l1, ⟨(.ro true), 3, 1, r11.2, .z r11.1⟩, ⟨(.ro true), 3, 1, r13.2, .z r13.1⟩]⟩ (aP g3 (aP g4 aN)) ?_
  refine Vi (true) (fun _ => ?_) (fun hb => by cases hb)
  refine Vrs hT [] ⟨[(6, .c (.nils)), (7, kB false)], [], []⟩ ?_
  refine Vc [.nil 6 5 1 (.b [])] [0] (qPower_R ([], 0, false)) (W_ret ?_)
  exact ⟨.inl rfl, by cases h; rfl⟩
 ·replace h := bif_f h g4
  obtain ⟨r22, g5, h⟩ := bind_some' h
  refine Vg hT (fT 3 (rSize_ok n r17) (fT 8 (rCmp_ok n r22) fN)) [(5, false)] [] [0, 1, 2, 3] ⟨[(0, kH 0), (1, kH 1), (8, kH 2), (9, kH 3), (24, kB (decide ((0 : Int) ≤ r22)))], [], [ob 5 l0, ow 55 l1, ⟨(.ro true), 3, 1, r11.2, .z r11.1⟩, ⟨(.ro true), 3, 1, r13.2, .z r13.1⟩]⟩ (aP g3 (aP g4 (aP g5 aN))) ?_
  refine Vi ((decide ((0 : Int) ≤ r22))) (fun g9 => ?_) (fun g9 => ?_)
  ·replace h := bif_t h g9
   refine Vrs hT [] ⟨[(6, .c (.nils)), (7, kB false)], [], []⟩ ?_
   refine Vc [.nil 6 5 1 (.b [])] [0] (qPower_R ([], 0, false)) (W_ret ?_)
   exact ⟨.inl rfl, by cases h; rfl⟩
  ·replace h := bif_f h g9
   refine W_skip ?_
   obtain ⟨r27, g6, h⟩ := bind_some' h
   obtain ⟨r29, g7, h⟩ := bind_some' h
   obtain ⟨r32, g8, h⟩ := bind_some' h
   refine Vgs hT (fT 2 (rOf_ok n r27) (fT 4 (rExp_ok n r29) (fT 7 (rWrite_ok n r32) fN))) [] [] [6] ⟨[(6, kH 0), (7, kB r32.2.2)], [], [⟨.row, 5, 1, r32.2.1, .b r32.1⟩]⟩ (aP g6 (aP g7 (aP g8 aN))) ?_
   refine Vc [] [0] (qPower_R (r32.1, r32.2.1, r32.2.2)) (W_ret ?_)
   exact ⟨.inl rfl, by cases h; rfl⟩
def qLaid_l1_E (a0 : List UInt8) (a1 : Int) (l5_2 : List UInt8) (i6_2 : Int) : S := ⟨[(0, kH 0), (1, kI a1), (5, kH 1), (6, kI i6_2)], [], [ob 5 a0, nb 5 l5_2]⟩
abbrev qLaid_l1_P (n : Nat) (a0 : List UInt8) (a1 : Int) (r : List UInt8) (fu : Nat) : S → Prop := fun s => ∃ (l5_2 : List UInt8), ∃ (i6_2 : Int), s = qLaid_l1_E a0 a1 l5_2 i6_2 ∧ qLaid_l1 n a0 a1 fu l5_2 i6_2 = some r
def qLaid_R (r : List UInt8) : S := ⟨[(4, kH 0)], [], [nb 5 r]⟩
def qLaid_ct (n : Nat) (r : List UInt8) : Ct := ctc (rB 5).rd fun _ l0 => ctc rI.rd fun _ l1 => ct0 fun H => ([qLaid n l0 l1 = some r], shA H.length (kH 0), shH H.length [nb 5 r])
theorem qLaid_ok (n : Nat) (r : List UInt8) : FnOk Tryd.prog Tr 14 (qLaid_ct n r) := by
 refine fnok Tryd.func14 ?_
 refine HO_c (rB 5) fun l0 _ => HO_c rI fun l1 _ => HO_0 tabO_df (qLaid_R r) [.tmp 4] [0] 25 Tryd.func14 fun w hG h => ?_
 unfold qLaid at h
 have hT := tabO_df
 refine Vrs hT [0] ⟨[(0, kH 0), (1, kI l1)], [], [ob 5 l0]⟩ ?_
 refine Vrs hT [0, 1] ⟨[(0, kH 0), (1, kI l1), (5, kH 1)], [], [ob 5 l0, ⟨.row, 5, 1, 2, .b [0, 1]⟩]⟩ ?_
 refine W_seq ?_
 refine Vrs hT [0, 1] ⟨[(0, kH 0), (1, kI l1), (5, kH 1), (6, kI 0)], [], [ob 5 l0, ⟨.row, 5, 1, 2, .b [0, 1]⟩]⟩ ?_
 refine W_block ?_
 refine Vc [] [0, 1] (qLaid_l1_E l0 l1 [0, 1] 0) (W_lp ((qLaid_l1_P n l0 l1 r)) n ⟨_, _, rfl, h⟩ ?_)
 rintro fu_l1 _ ⟨l5_2, i6_2, rfl, h⟩
 cases fu_l1 with
 | zero => cases h
 | succ fu_l1 =>
  refine ⟨fu_l1, rfl, ?_⟩
  rw [qLaid_l1] at h
  refine W_seq ?_
  obtain ⟨g1, h⟩ := gd_some h
  refine Vgs hT fN [] [] [0, 1] ⟨[(0, kH 0), (1, kI l1), (5, kH 1), (6, kI i6_2), (11, kB (decide (i6_2 < (l1 - 54))))], [], [ob 5 l0, nb 5 l5_2]⟩ (aP g1 aN) ?_
  refine Vi ((decide (i6_2 < (l1 - 54)))) (fun g8 => ?_) (fun g8 => ?_)
  ·replace h := bif_t h g8
   refine W_skip ?_
   refine W_seq ?_
   refine W_block ?_
   obtain ⟨g2, h⟩ := gd_some h
   refine Vg hT fN [] [] [0, 3] ⟨[(0, kH 0), (1, kI l1), (5, kH 1), (6, kI i6_2)], [], [ob 5 l0, nb 5 (l5_2 ++ [255])]⟩ (aP g2 aN) ?_
   obtain ⟨g3, h⟩ := gd_some h
   refine Vg hT fN [] [] [0, 1] (qLaid_l1_E l0 l1 (l5_2 ++ [255]) (i6_2 + 1)) (aP g3 aN) ?_
   exact ⟨_, _, rfl, h⟩
  ·replace h := bif_f h g8
   refine Vc [] [0, 1] ⟨[(0, kH 0), (5, kH 1)], [], [ob 5 l0, nb 5 l5_2]⟩ (W_exit ?_)
   obtain ⟨g4, h⟩ := gd_some h
   refine Vgs hT fN [] [] [0, 3] ⟨[(0, kH 0), (5, kH 1)], [], [ob 5 l0, nb 5 (l5_2 ++ [0, 48, 49, 48, 13, 6, 9, 96, 134, 72, 1, 101, 3, 4, 2, 1, 5, 0, 4, 32])]⟩ (aP g4 aN) ?_
   obtain ⟨r21, g5, h⟩ := bind_some' h
   obtain ⟨r23, g6, h⟩ := bind_some' h
   obtain ⟨g7, h⟩ := gd_some h
   refine Vgs hT (fT 1 (made_ok n r21) (fT 3 (refsum_ok n r23) fN)) [] [] [4] ⟨[(4, kH 0)], [], [nb 5 ((l5_2 ++ [0, 48, 49, 48, 13, 6, 9, 96, 134, 72, 1, 101, 3, 4, 2, 1, 5, 0, 4, 32]) ++ r23)]⟩ (aP g5 (aP g6 (aP g7 aN))) ?_
   refine Vc [] [0] (qLaid_R ((l5_2 ++ [0, 48, 49, 48, 13, 6, 9, 96, 134, 72, 1, 101, 3, 4, 2, 1, 5, 0, 4, 32]) ++ r23)) (W_ret ?_)
   exact ⟨.inl rfl, by cases h; rfl⟩
end Go.Proofs.YthichmclbiggmaaDoor
end
section
namespace Go.Sx
open Go Go.RowKit Go.Ch Go.Proofs.YthichmclbiggmaaDoor
theorem hbit_is (n : Nat) (x : UInt32) {i : Int} (h1 : -1000 ≤ i) (h2 : i ≤ 31) : hbit n x i = some (UInt32.ofNat (Go.Ch.bitI x i)) := by
 unfold hbit Go.Ch.bitI
 by_cases h : i < 0
 ·rw [ite_t (by simpa using h), if_pos h]; rfl
 ·obtain ⟨k, rfl⟩ := Int.eq_ofNat_of_zero_le (show 0 ≤ i by omega)
  have e : ((31 : Int) - (k : Int)).toNat = 31 - k := by omega
  rw [ite_f (by simp), if_neg h, gd_pos (okI64 (by omega) (by omega)), gd_pos (by omega)]
  unfold shr32
  rw [if_pos (by omega), e, shr_and_one x k (by omega), Int.toNat_natCast]
theorem hmixed_l1_is (n : Nat) (x : UInt32) (a b c : Nat) (push : Bool) (ha0 : 0 < a) (ha : a < 32) (hb0 : 0 < b) (hb : b < 32) (hc0 : 0 < c) (hc : c < 32) : ∀ (m k fu : Nat), k + m = 32 → m < fu →
  hmixed_l1 n x (a : Int) (b : Int) (c : Int) push fu (UInt32.ofNat (top (mixZ x a b c push) k)) (k : Int) = some (mixZ x a b c push) := by
 intro m
 induction m with
 | zero =>
  intro k fu hk hf
  obtain rfl : k = 32 := by omega
  cases fu with
  | zero => omega
  | succ fu => rw [hmixed_l1, ite_f (by decide), top_done]
 | succ m ih =>
  intro k fu hk hf
  cases fu with
  | zero => omega
  | succ fu =>
   have mb := mix_bit x a b c push ha0 ha hb0 hb hc0 hc k (by omega)
   have tm : ∀ y : Nat, 0 < y → y < 32 → Int.tmod ((k : Int) - (y : Int) + 32) 32 = ((k : Int) - (y : Int) + 32) % 32 := fun y h0 h1 => Int.tmod_eq_emod_of_nonneg (by omega)
   have key : ∀ r : Nat, r < 2 → r = (if push then Go.Ch.bitI x ((k : Int) - c) else Go.Ch.bitI x (((k : Int) - c + 32) % 32)) →
     hmixed_j1 n x (a : Int) (b : Int) (c : Int) push (UInt32.ofNat (top (mixZ x a b c push) k)) (k : Int) (hmixed_l1 n x (a : Int) (b : Int) (c : Int) push fu) (UInt32.ofNat r) = some (mixZ x a b c push) := by
    intro r hr2 hr
    unfold hmixed_j1
    rw [gd_pos (okI64 (by omega) (by omega)), gd_pos (okI64 (by omega) (by omega)), gd_pos (by decide), tm a ha0 ha, hbit_is n x (by omega) (by omega), Option.bind_some, gd_pos (okI64 (by omega) (by omega)), gd_pos (okI64 (by omega) (by omega)), gd_pos (by decide), tm b hb0 hb, hbit_is n x (by omega) (by omega), Option.bind_some, gd_pos (by decide), gd_pos (okI64 (by omega) (by omega))]
    rw [build_step (mixZ x a b c push) k (by omega) _ (by rw [three_bits (bitI_lt x _) (bitI_lt x _) hr2, mb, hr])]
    exact ih (k + 1) fu (by omega) (by omega)
   rw [hmixed_l1, ite_t (by simp; omega), gd_pos (okI64 (by omega) (by omega)), hbit_is n x (by omega) (by omega), Option.bind_some]
   cases push with
   | true => rw [ite_f (by rfl)]; exact key _ (bitI_lt x _) rfl
   | false =>
    rw [ite_t (by rfl), gd_pos (okI64 (by omega) (by omega)), gd_pos (okI64 (by omega) (by omega)), gd_pos (by decide), tm c hc0 hc, hbit_is n x (by omega) (by omega), Option.bind_some]
    exact key _ (bitI_lt x _) rfl
theorem hmixed_is {n : Nat} (hn : 100 ≤ n) (x : UInt32) (a b c : Nat) (push : Bool) (ha0 : 0 < a) (ha : a < 32) (hb0 : 0 < b) (hb : b < 32) (hc0 : 0 < c) (hc : c < 32) : hmixed n x (a : Int) (b : Int) (c : Int) push = some (mixZ x a b c push) := by
 have := hmixed_l1_is n x a b c push ha0 ha hb0 hb hc0 hc 32 0 n (by omega) (by omega)
 rw [top_zero] at this
 exact this
theorem hb_nat (n : Nat) (x : UInt32) {k : Nat} (h : k < 32) : hbit n x (k : Int) = some (UInt32.ofNat (hiBit x k)) := by rw [hbit_is n x (by omega) (by omega), bitI_nat]
theorem hchoice_l1_is (n : Nat) (e f g : UInt32) : ∀ (m k fu : Nat), k + m = 32 → m < fu → hchoice_l1 n e f g fu (UInt32.ofNat (top (ch e f g) k)) (k : Int) = some (ch e f g) := by
 intro m
 induction m with
 | zero =>
  intro k fu hk hf
  obtain rfl : k = 32 := by omega
  cases fu with
  | zero => omega
  | succ fu => rw [hchoice_l1, ite_f (by decide), top_done]
 | succ m ih =>
  intro k fu hk hf
  cases fu with
  | zero => omega
  | succ fu =>
   have cb := ch_bit e f g k (by omega)
   have key : ∀ r : Nat, r < 2 → r = hiBit (ch e f g) k → hchoice_j1 n e f g (UInt32.ofNat (top (ch e f g) k)) (k : Int) (hchoice_l1 n e f g fu) (UInt32.ofNat r) = some (ch e f g) := by
    intro r hr2 hr
    unfold hchoice_j1
    rw [gd_pos (okI64 (by omega) (by omega)), build_step (ch e f g) k (by omega) _ (by rw [ofNat_toNat32 (by omega), hr])]
    exact ih (k + 1) fu (by omega) (by omega)
   rw [hchoice_l1, ite_t (by simp; omega), hb_nat n g (by omega), Option.bind_some, hb_nat n e (by omega), Option.bind_some]
   have hlt := hiBit_lt e k
   by_cases h1 : hiBit e k = 1
   ·rw [ite_t (by rw [h1]; rfl), hb_nat n f (by omega), Option.bind_some]
    exact key _ (hiBit_lt _ _) (by rw [cb, if_pos h1])
   ·rw [ite_f (by rw [show hiBit e k = 0 by omega]; rfl)]
    exact key _ (hiBit_lt _ _) (by rw [cb, if_neg h1])
theorem hchoice_is {n : Nat} (hn : 100 ≤ n) (e f g : UInt32) : hchoice n e f g = some (ch e f g) := by
 have := hchoice_l1_is n e f g 32 0 n (by omega) (by omega)
 rw [top_zero] at this
 exact this
theorem hmaj_l1_is (n : Nat) (a b c : UInt32) : ∀ (m k fu : Nat), k + m = 32 → m < fu → hmaj_l1 n a b c fu (UInt32.ofNat (top (maj a b c) k)) (k : Int) = some (maj a b c) := by
 intro m
 induction m with
 | zero =>
  intro k fu hk hf
  obtain rfl : k = 32 := by omega
  cases fu with
  | zero => omega
  | succ fu => rw [hmaj_l1, ite_f (by decide), top_done]
 | succ m ih =>
  intro k fu hk hf
  cases fu with
  | zero => omega
  | succ fu =>
   rw [hmaj_l1, ite_t (by simp; omega), hb_nat n a (by omega), Option.bind_some, hb_nat n b (by omega), Option.bind_some, hb_nat n c (by omega), Option.bind_some, gd_pos (by decide), gd_pos (okI64 (by omega) (by omega))]
   rw [build_step (maj a b c) k (by omega) _ (by rw [three_half (hiBit_lt _ _) (hiBit_lt _ _) (hiBit_lt _ _), maj_bit])]
   exact ih (k + 1) fu (by omega) (by omega)
theorem hmaj_is {n : Nat} (hn : 100 ≤ n) (a b c : UInt32) : hmaj n a b c = some (maj a b c) := by
 have := hmaj_l1_is n a b c 32 0 n (by omega) (by omega)
 rw [top_zero] at this
 exact this
theorem hround_is {n : Nat} (hn : 100 ≤ n) (V : Words) (x : UInt32) : hround n V.list x = some (roundOf V x).list := by
 have m1 : ∀ y, hmixed n y 6 11 25 false = some (bsig1 y) := fun y => hmixed_is hn y 6 11 25 false (by decide) (by decide) (by decide) (by decide) (by decide) (by decide)
 have m0 : ∀ y, hmixed n y 2 13 22 false = some (bsig0 y) := fun y => hmixed_is hn y 2 13 22 false (by decide) (by decide) (by decide) (by decide) (by decide) (by decide)
 unfold hround
 rw [m1, hchoice_is hn, m0, hmaj_is hn]
 show some [(V.h + bsig1 V.e + ch V.e V.f V.g + x + bsig0 V.a) + maj V.a V.b V.c, V.a, V.b, V.c, V.d + (V.h + bsig1 V.e + ch V.e V.f V.g + x), V.e, V.f, V.g] = _
 rw [UInt32.add_assoc (V.h + bsig1 V.e + ch V.e V.f V.g + x)]
 rfl
theorem hsched_l2_is (n : Nat) (bl : List UInt8) (hl : bl.length = 64) (i : Nat) (hi : i < 16) (K : List UInt32 → Int → Option (List UInt32)) : ∀ (m k fu : Nat), k + m = 4 → m < fu → hsched_l2 n bl (i : Int) K fu (halfW bl i k) (k : Int) = K (halfW bl i 4) ((i + 1 : Nat) : Int) := by
 intro m
 induction m with
 | zero =>
  intro k fu hk hf
  obtain rfl : k = 4 := by omega
  cases fu with
  | zero => omega
  | succ fu =>
   rw [hsched_l2, ite_f (by decide)]
   unfold hsched_j1
   rw [gd_pos (okI64 (by omega) (by omega))]; rfl
 | succ m ih =>
  intro k fu hk hf
  cases fu with
  | zero => omega
  | succ fu =>
   have e : (4 * (i : Int) + (k : Int)).toNat = 4 * i + k := by omega
   rw [hsched_l2, ite_t (by simp; omega), gd_pos (by omega), gd_pos (by omega), gd_pos (okI64 (by omega) (by omega)), gd_pos (okI64 (by omega) (by omega)), gd_pos (by omega), gd_pos (by omega), gd_pos (by omega), gd_pos (by omega), gd_pos (okI64 (by omega) (by omega)), e, Int.toNat_natCast]
   have := halfW_step bl i k hi (by omega) hl
   unfold wadd at this
   rw [this]
   exact ih (k + 1) fu (by omega) (by omega)
theorem hsched_l1_hi {n : Nat} (hn : 100 ≤ n) (bl : List UInt8) : ∀ (m i fu : Nat), i + m = 64 → 16 ≤ i → m < fu → hsched_l1 n bl fu (padW (extN (i - 16) (first16 bl))) (i : Int) = some (sched bl) := by
 have m0 : ∀ y, hmixed n y 7 18 3 true = some (ssig0 y) := fun y => hmixed_is hn y 7 18 3 true (by decide) (by decide) (by decide) (by decide) (by decide) (by decide)
 have m1 : ∀ y, hmixed n y 17 19 10 true = some (ssig1 y) := fun y => hmixed_is hn y 17 19 10 true (by decide) (by decide) (by decide) (by decide) (by decide) (by decide)
 intro m
 induction m with
 | zero =>
  intro i fu hi h16 hf
  obtain rfl : i = 64 := by omega
  cases fu with
  | zero => omega
  | succ fu => rw [hsched_l1, ite_f (by decide), padW_full _ (by rw [length_extN, length_first16])]; rfl
 | succ m ih =>
  intro i fu hi h16 hf
  cases fu with
  | zero => omega
  | succ fu =>
   have hlen : (extN (i - 16) (first16 bl)).length = i := by rw [length_extN, length_first16]; omega
   have e15 : ((i : Int) - 15).toNat = i - 15 := by omega
   have e2 : ((i : Int) - 2).toNat = i - 2 := by omega
   have e16 : ((i : Int) - 16).toNat = i - 16 := by omega
   have e7 : ((i : Int) - 7).toNat = i - 7 := by omega
   rw [hsched_l1, ite_t (by simp; omega), ite_f (by simp; omega), gd_pos (okI64 (by omega) (by omega)), gd_pos (by omega), gd_pos (by omega), gd_pos (okI64 (by omega) (by omega)), gd_pos (by omega), gd_pos (by omega), m0, Option.bind_some, gd_pos (okI64 (by omega) (by omega)), gd_pos (by omega), gd_pos (by omega), gd_pos (okI64 (by omega) (by omega)), gd_pos (by omega), gd_pos (by omega), m1, Option.bind_some, gd_pos (by omega), gd_pos (by omega), e15, e2, e16, e7, Int.toNat_natCast]
   unfold hsched_j1
   rw [gd_pos (okI64 (by omega) (by omega))]
   generalize hws : extN (i - 16) (first16 bl) = ws at hlen
   rw [getD_padW ws _ (by omega), getD_padW ws _ (by omega), getD_padW ws _ (by omega), getD_padW ws _ (by omega)]
   have key := extW_padW ws (by omega)
   have hn : nextW ws = ((ws.getD (i - 16) 0 + ssig0 (ws.getD (i - 15) 0)) + ws.getD (i - 7) 0) + ssig1 (ws.getD (i - 2) 0) := by unfold nextW; rw [hlen]
   rw [hlen, hn] at key
   rw [key]
   have := ih (i + 1) fu (by omega) (by omega) (by omega)
   rw [show i + 1 - 16 = (i - 16) + 1 by omega, extN, hws] at this
   exact this
theorem hsched_l1_lo {n : Nat} (hn : 100 ≤ n) (bl : List UInt8) (hl : bl.length = 64) : ∀ (m i fu : Nat), i + m = 16 → m + 60 < fu → hsched_l1 n bl fu (padW ((first16 bl).take i)) (i : Int) = some (sched bl) := by
 intro m
 induction m with
 | zero =>
  intro i fu hi hf
  obtain rfl : i = 16 := by omega
  have := hsched_l1_hi hn bl 48 16 fu (by omega) (by omega) (by omega)
  rw [List.take_of_length_le (by rw [length_first16]; omega)]
  exact this
 | succ m ih =>
  intro i fu hi hf
  cases fu with
  | zero => omega
  | succ fu =>
   rw [hsched_l1, ite_t (by simp; omega), ite_t (by simp; omega), ← halfW_zero bl i (by omega)]
   have := hsched_l2_is n bl hl i (by omega) (hsched_l1 n bl fu) 4 0 n (by omega) (by omega)
   rw [show ((0 : Nat) : Int) = 0 from rfl] at this
   rw [this, halfW_four bl i (by omega)]
   exact ih (i + 1) fu (by omega) (by omega)
theorem hsched_is {n : Nat} (hn : 100 ≤ n) {bl : List UInt8} (hl : bl.length = 64) : hsched n bl = some (sched bl) :=
 hsched_l1_lo hn bl hl 16 0 n (by omega) (by omega)
theorem hpress_l1_is {n : Nat} (hn : 100 ≤ n) (ks : List UInt32) (hk : ks.length = 64) (V : Words) (ws : List UInt32) : ∀ (m i fu : Nat), i + m = 64 → m < fu → hpress_l1 n ks V.list ws fu (roundsN ks ws V i).list (i : Int) = some (addWords (roundsN ks ws V 64) V).list := by
 intro m
 induction m with
 | zero =>
  intro i fu hi hf
  obtain rfl : i = 64 := by omega
  cases fu with
  | zero => omega
  | succ fu =>
   rw [hpress_l1, ite_f (by decide)]
   exact add8_is (hpress_l2 n V.list) V (fun fu w i => by rw [hpress_l2]) _ 8 0 n _ (by omega) (by omega) rfl (fun k hk => by omega) (fun k _ => rfl)
 | succ m ih =>
  intro i fu hi hf
  cases fu with
  | zero => omega
  | succ fu =>
   rw [hpress_l1, ite_t (by simp; omega), gd_pos (by omega), gd_pos (by omega), gd_pos (by omega), gd_pos (by omega), Int.toNat_natCast, hround_is hn, Option.bind_some, gd_pos (okI64 (by omega) (by omega))]
   exact ih (i + 1) fu (by omega) (by omega)
theorem hpress_is {n : Nat} (hn : 100 ≤ n) (ks : List UInt32) (hk : ks.length = 64) (V : Words) {bl : List UInt8} (hl : bl.length = 64) : hpress n ks V.list bl = some (pressOf ks V bl).list := by
 unfold hpress
 rw [hsched_is hn hl, Option.bind_some]
 exact hpress_l1_is hn ks hk V (sched bl) 64 0 n (by omega) (by omega)
theorem lenB_get (len : Nat) {i : Nat} (h : i < 8) : (lenB len).getD i 0 = UInt8.ofNat (8 * len / 2 ^ (56 - 8 * i)) := by
 unfold lenB
 rw [List.getD_eq_getElem?_getD, List.getElem?_map, List.getElem?_range h]; rfl
theorem htail_l1_is (n : Nat) (len : Nat) (hl : len ≤ 100000) (A : List UInt8) (hA : A.length ≤ 1000) : ∀ (m fu : Nat) (l : List UInt8), m ≤ 8 → m < fu → l.length = 8 → (∀ k, m ≤ k → k < 8 → l.getD k 0 = (lenB len).getD k 0) →
  htail_l1 n A fu l ((8 * len / 2 ^ (64 - 8 * m) : Nat) : Int) ((m : Int) - 1) = some (A ++ lenB len) := by
 intro m
 induction m with
 | zero =>
  intro fu l hm hf h8 hk
  cases fu with
  | zero => omega
  | succ fu =>
   rw [htail_l1, ite_f (by simp), gd_pos (by unfold rmB; omega)]
   congr 2
   refine List.ext_getElem? fun j => ?_
   by_cases hj : j < 8
   ·have := hk j (Nat.zero_le _) hj
    rw [List.getD_eq_getElem?_getD, List.getD_eq_getElem?_getD, List.getElem?_eq_getElem (by omega), List.getElem?_eq_getElem (show j < (lenB len).length from hj)] at this
    rw [List.getElem?_eq_getElem (by omega), List.getElem?_eq_getElem (show j < (lenB len).length from hj)]
    exact congrArg some this
   ·rw [List.getElem?_eq_none (by omega), List.getElem?_eq_none (by show 8 ≤ j; omega)]
 | succ m ih =>
  intro fu l hm hf h8 hk
  cases fu with
  | zero => omega
  | succ fu =>
   have e0 : (((m + 1 : Nat) : Int) - 1) = (m : Int) := by omega
   obtain ⟨q, hq⟩ : ∃ q, q = 8 * len / 2 ^ (64 - 8 * (m + 1)) := ⟨_, rfl⟩
   have hq2 : q / 256 = 8 * len / 2 ^ (64 - 8 * m) := by
    rw [hq, Nat.div_div_eq_div_mul, show (256 : Nat) = 2 ^ 8 from rfl, ← Nat.pow_add]
    congr 2; omega
   have hqle : q ≤ 8 * len := by rw [hq]; exact Nat.div_le_self _ _
   have t1 : Int.tdiv (q : Int) 256 = ((q / 256 : Nat) : Int) := by rw [Int.tdiv_eq_ediv_of_nonneg (by omega)]; omega
   have t2 : Int.tmod (q : Int) 256 = ((q % 256 : Nat) : Int) := by rw [Int.tmod_eq_emod_of_nonneg (by omega)]; omega
   rw [e0, ← hq, htail_l1, ite_t (by simp), gd_pos (by decide), gd_pos (by omega), gd_pos (by omega), gd_pos (by decide), t1, gd_pos (okI64 (by omega) (by omega)), gd_pos (okI64 (by omega) (by omega)), t2, Int.toNat_natCast, hq2]
   refine ih fu _ (by omega) (by omega) (by rw [List.length_set]; exact h8) (fun k h1 h2 => ?_)
   by_cases e : k = m
   ·subst e
    rw [getD_set_eq _ _ (by omega), lenB_get len h2]
    have e2 : 64 - 8 * (k + 1) = 56 - 8 * k := by omega
    rw [e2] at hq
    rw [← hq]
    refine UInt8.toNat_inj.1 ?_
    simp [UInt8.ofInt]
    omega
   ·rw [getD_set_ne _ _ (by omega)]; exact hk k (by omega) h2
theorem htail_l2_is (n : Nat) (hn : 200 ≤ n) (len : Nat) (hl : len ≤ 100000) : ∀ (m i fu : Nat), i + m = (119 - len % 64) % 64 → m < fu → htail_l2 n (len : Int) fu ([128] ++ List.replicate i 0) = some (tailOf len) := by
 intro m
 induction m with
 | zero =>
  intro i fu hi hf
  cases fu with
  | zero => omega
  | succ fu =>
   have e : Int.tmod ((len : Int) + ((([128] ++ List.replicate i 0 : List UInt8).length : Nat) : Int) + 8) 64 = 0 := by
    rw [Int.tmod_eq_emod_of_nonneg (by omega)]; simp; omega
   rw [htail_l2, gd_pos (okI64 (by simp; omega) (by simp; omega)), gd_pos (okI64 (by simp; omega) (by simp; omega)), gd_pos (by decide), ite_f (by rw [e]; rfl)]
   unfold htail_j1
   rw [gd_pos (by decide), gd_pos rfl, gd_pos (by decide), gd_pos (okI64 (by omega) (by omega))]
   have := htail_l1_is n len hl ([128] ++ List.replicate i 0) (by simp; omega) 8 n (List.replicate 8 0) (by omega) (by omega) rfl (fun k h1 h2 => by omega)
   rw [show 8 * len / 2 ^ (64 - 8 * 8) = 8 * len from Nat.div_one _] at this
   have e3 : ((8 * len : Nat) : Int) = 8 * (len : Int) := by omega
   rw [e3] at this
   have e4 : tailOf len = [128] ++ List.replicate i 0 ++ lenB len := by unfold tailOf; rw [show i = (119 - len % 64) % 64 by omega]
   rw [e4]
   exact this
 | succ m ih =>
  intro i fu hi hf
  cases fu with
  | zero => omega
  | succ fu =>
   have e : Int.tmod ((len : Int) + ((([128] ++ List.replicate i 0 : List UInt8).length : Nat) : Int) + 8) 64 ≠ 0 := by
    rw [Int.tmod_eq_emod_of_nonneg (by omega)]; simp; omega
   rw [htail_l2, gd_pos (okI64 (by simp; omega) (by simp; omega)), gd_pos (okI64 (by simp; omega) (by simp; omega)), gd_pos (by decide), ite_t (by simpa using e), gd_pos (by unfold rmB; simp; omega), List.append_assoc, show List.replicate i (0 : UInt8) ++ [0] = List.replicate (i + 1) 0 from List.replicate_succ'.symm]
   exact ih (i + 1) fu (by omega) (by omega)
theorem htail_is {n : Nat} (hn : 200 ≤ n) {len : Nat} (hl : len ≤ 100000) : htail n (len : Int) = some (tailOf len) :=
 htail_l2_is n hn len hl ((119 - len % 64) % 64) 0 n (by omega) (by omega)
theorem refsum_l2_run (n : Nat) (hn : 100 ≤ n) (ks : List UInt32) (h0 h1 h2 h3 h4 h5 h6 h7 : UInt32) (a1 r17 : List UInt8) (V : Words) (k : List UInt32 → Int → Option (List UInt8)) (A : List UInt8) (hA : a1 ++ r17 = A) (i : Nat) (hi : i + 64 ≤ A.length) (hA2 : A.length ≤ 1000000) (hk : ks.length = 64) :
  ∀ (m j fu : Nat), j + m = 64 → m < fu → refsum_l2 n ks h0 h1 h2 h3 h4 h5 h6 h7 a1 r17 V.list (i : Int) k fu (filN 0 (A.drop i) j 64) (j : Int) = k (pressOf ks V ((A.drop i).take 64)).list ((i : Int) + 64) := by
 intro m
 induction m with
 | zero =>
  intro j fu hj hf
  obtain rfl : j = 64 := by omega
  cases fu with
  | zero => omega
  | succ fu =>
   rw [refsum_l2, ite_f (by simp), filN_all, hpress_is hn ks hk V (by rw [List.length_take, List.length_drop]; omega), Option.bind_some, gd_pos (okI64 (by omega) (by omega))]
 | succ m ih =>
  intro j fu hj hf
  cases fu with
  | zero => omega
  | succ fu =>
   simp only [refsum_l2, List.nil_append, Int.toNat_natCast, hA]
   rw [ite_t (by simp; omega), gd_pos (okI64 (by omega) (by omega)), gd_pos (by omega), gd_pos (by omega), gd_pos (by omega), gd_pos (by omega), gd_pos (okI64 (by omega) (by omega))]
   rw [show ((i : Int) + (j : Int)).toNat = i + j by omega, ← getD_drop, filN_set _ _ _ _ (by omega) (by simp; omega)]
   have := ih (j + 1) fu (by omega) (by omega)
   rw [Int.natCast_add] at this
   exact this
theorem u32_div (x : UInt32) : [(x / (16777216 : UInt32)).toUInt8, (x / (65536 : UInt32)).toUInt8, (x / (256 : UInt32)).toUInt8, x.toUInt8] = bytesOf x := by
 have d : ∀ (k : Nat) (m : UInt32), k < 32 → m.toNat = 2 ^ k → x / m = x >>> UInt32.ofNat k := by
  intro k m hk hm
  apply UInt32.toNat_inj.1
  rw [UInt32.toNat_div, hm, UInt32.toNat_shiftRight, Nat.shiftRight_eq_div_pow]
  simp [Nat.mod_eq_of_lt hk, Nat.mod_eq_of_lt (show k < 4294967296 by omega)]
 unfold bytesOf
 rw [d 24 16777216 (by omega) rfl, d 16 65536 (by omega) rfl, d 8 256 (by omega) rfl]
theorem refsum_l3_run (n : Nat) (w : List UInt32) (hw : w.length = 8) : ∀ (m j fu : Nat), j + m = 8 → m < fu → refsum_l3 n w fu ((w.take j).flatMap bytesOf) (j : Int) = some (w.flatMap bytesOf) := by
 intro m
 induction m with
 | zero =>
  intro j fu hj hf
  obtain rfl : j = 8 := by omega
  cases fu with
  | zero => omega
  | succ fu => rw [refsum_l3, ite_f (by simp), List.take_of_length_le (by omega)]
 | succ m ih =>
  intro j fu hj hf
  cases fu with
  | zero => omega
  | succ fu =>
   have hl : ∀ (l : List UInt32), (l.flatMap bytesOf).length = 4 * l.length := by
    intro l
    induction l with
    | nil => rfl
    | cons x l ih => simp only [List.flatMap_cons, List.length_append, ih, List.length_cons]; simp [bytesOf]; omega
   have hr : rmB (((w.take j).flatMap bytesOf).length + 4) 1 := by unfold rmB; rw [hl, List.length_take]; omega
   simp only [refsum_l3, Int.toNat_natCast]
   rw [ite_t (by simp; omega), gd_pos (by omega), gd_pos (by omega), gd_pos (by decide), gd_pos (by omega), gd_pos (by omega), gd_pos (by decide), gd_pos (by omega), gd_pos (by omega), gd_pos (by decide), gd_pos (by omega), gd_pos (by omega), gd_pos hr, gd_pos (okI64 (by omega) (by omega))]
   rw [u32_div]
   have := ih (j + 1) fu (by omega) (by omega)
   rw [Int.natCast_add, List.take_succ_eq_append_getElem (by omega), List.flatMap_append] at this
   rw [List.getD_eq_getElem?_getD, List.getElem?_eq_getElem (by omega)]
   simpa using this
theorem refsum_l1_run (n : Nat) (hn : 100 ≤ n) (ks : List UInt32) (h0 h1 h2 h3 h4 h5 h6 h7 : UInt32) (a1 r17 : List UInt8) (V : Words) (A : List UInt8) (hA : a1 ++ r17 = A) (q : Nat) (hq : A.length = 64 * q) (hA2 : A.length ≤ 1000000) (hk : ks.length = 64) :
  ∀ (m j fu : Nat), j + m = q → m < fu → refsum_l1 n ks h0 h1 h2 h3 h4 h5 h6 h7 a1 r17 fu (pressN ks V A j).list ((64 * j : Nat) : Int) = some ((pressN ks V A q).list.flatMap bytesOf) := by
 intro m
 induction m with
 | zero =>
  intro j fu hj hf
  obtain rfl : j = q := by omega
  cases fu with
  | zero => omega
  | succ fu =>
   simp only [refsum_l1, List.nil_append, Int.toNat_natCast, hA]
   rw [ite_f (by simp; omega)]
   exact refsum_l3_run n _ rfl 8 0 n (by omega) (by omega)
 | succ m ih =>
  intro j fu hj hf
  cases fu with
  | zero => omega
  | succ fu =>
   simp only [refsum_l1, List.nil_append, Int.toNat_natCast, hA]
   rw [ite_t (by simp; omega), ← filN_zero 0 (A.drop (64 * j)) 64]
   have := refsum_l2_run n hn ks h0 h1 h2 h3 h4 h5 h6 h7 a1 r17 (pressN ks V A j) (refsum_l1 n ks h0 h1 h2 h3 h4 h5 h6 h7 a1 r17 fu) A hA (64 * j) (by omega) hA2 hk 64 0 n (by omega) (by omega)
   rw [show ((0 : Nat) : Int) = 0 from rfl] at this
   rw [this]
   have h2 := ih (j + 1) fu (by omega) (by omega)
   rw [show ((64 * (j + 1) : Nat) : Int) = ((64 * j : Nat) : Int) + 64 by omega] at h2
   exact h2
theorem refsum_run (n : Nat) (ks : List UInt32) (V : Words) (a1 : List UInt8) (ha : a1.length ≤ 5000) (hn : 200 ≤ n) (hk : ks.length = 64) :
  refsum n ks V.a V.b V.c V.d V.e V.f V.g V.h a1 = some (digest ks V a1) := by
 have hl := length_tailOf a1.length
 have hw := whole_tailOf a1.length
 unfold refsum
 rw [gd_pos (by unfold rmB; omega), htail_is hn (by omega), Option.bind_some, gd_pos (by unfold rmB; simp only [List.nil_append]; omega), gd_pos (by omega)]
 have hlen : (a1 ++ tailOf a1.length).length = 64 * ((a1.length + (tailOf a1.length).length) / 64) := by rw [List.length_append]; omega
 exact refsum_l1_run n (by omega) ks V.a V.b V.c V.d V.e V.f V.g V.h a1 (tailOf a1.length) V _ rfl _ hlen (by rw [List.length_append]; omega) hk ((a1.length + (tailOf a1.length).length) / 64) 0 n (by omega) (by omega)
def N64 : Nat := 18446744073709551616
abbrev Dg (l : List UInt8) : List UInt8 := digest consts begin8 l
theorem Dg_len (l : List UInt8) : (Dg l).length = 32 := length_digest _ _ _
theorem consts_len : consts.length = 64 := rfl
theorem sumN {n : Nat} (hn : 200 ≤ n) {l : List UInt8} (hl : l.length ≤ 5000) : refsum n consts begin8.a begin8.b begin8.c begin8.d begin8.e begin8.f begin8.g begin8.h l = some (Dg l) := refsum_run n consts begin8 l hl hn consts_len
theorem rconstants_is : rconstants N64 = some consts := by decide +kernel
theorem refbegin_is : refbegin N64 = some begin8.list := by decide +kernel
theorem made_is : made N64 = some (consts, begin8.a, begin8.b, begin8.c, begin8.d, begin8.e, begin8.f, begin8.g, begin8.h) := by
 unfold made; rw [rconstants_is, refbegin_is]; rfl
end Go.Sx
end
section
namespace Go.Sx
open Go Go.RowKit Go.Ch Go.Proofs.YthichmclbiggmaaDoor
theorem E2 (v : Nat) {k : Nat} (h : (nD v).length ≤ k) : (nE v).length ≤ 2 * k := by
 rw [E_len, Nat.pow_mul]; exact (D_len v k).1 h
theorem D_of_dB {v k : Nat} (h : (dB v).length ≤ k) : (nD v).length ≤ (k + 3) / 4 := by rw [D_len_dB]; omega
theorem ksize_l1_is {n : Nat} (hn : 18446744073709551616 ≤ n) {a : List UInt32} (ha : a.length ≤ 1000000) : ∀ (m i fu : Nat), i + m = 129 → m < fu → i ≤ (dB (nV a)).length →
  ksize_l1 n a fu (i : Int) = some (if (dB (nV a)).length ≤ 128 then (((dB (nV a)).length : Nat) : Int) else -1) := by
 intro m
 induction m with
 | zero =>
  intro i fu hi hf hle
  cases fu with
  | zero => omega
  | succ fu => rw [ksize_l1, ite_f (by simp; omega), if_neg (by omega)]
 | succ m ih =>
  intro i fu hi hf hle
  cases fu with
  | zero => omega
  | succ fu =>
   rw [ksize_l1, ite_t (by simp; omega), pWrite_k hn ha (show i ≤ 256 by omega), Option.bind_some]
   by_cases h : (dB (nV a)).length ≤ i
   ·have h1 := (dB_len _ _).1 h
    have h2 := D_of_dB h
    rw [if_pos (by omega), if_pos h1, ite_t (by rfl), if_pos (by omega)]
    congr 1; omega
   ·have h1 : ¬ nV a < 256 ^ i := fun h' => h ((dB_len _ _).2 h')
    have key : (((if (nD (nV a)).length ≤ 64 then (if nV a < 256 ^ i then (padB i (nV a), i, none) else ([], 0, some 1)) else ([], 0, some 4)) : List UInt8 × Nat × Option Int).2.2).isNone = false := by
     rw [if_neg h1]; split <;> rfl
    rw [ite_f key, gd_pos (okI64 (by omega) (by omega))]
    exact ih (i + 1) fu (by omega) (by omega) (by omega)
theorem ksize_is {n : Nat} (hn : 18446744073709551616 ≤ n) {a : List UInt32} (ha : a.length ≤ 1000000) :
  ksize n a = some (if (dB (nV a)).length ≤ 128 then (((dB (nV a)).length : Nat) : Int) else -1) :=
 ksize_l1_is hn ha 129 0 n rfl (by omega) (Nat.zero_le _)
theorem and1 (x : UInt32) : ((x &&& (1 : UInt32)) == 1) = decide (x.toNat % 2 = 1) := by
 have e : (x &&& (1 : UInt32)).toNat = x.toNat % 2 := by rw [UInt32.toNat_and]; exact Nat.and_one_is_mod _
 by_cases h : x.toNat % 2 = 1
 ·rw [decide_eq_true h, beq_iff_eq]; exact UInt32.toNat_inj.1 (by rw [e, h]; rfl)
 ·rw [decide_eq_false h, beq_eq_false_iff_ne]; intro h2; rw [h2] at e; exact h e.symm
theorem V_mod2 (a : List UInt32) : nV a % 2 = (a.getD 0 0).toNat % 2 := by
 cases a with
 | nil => rfl
 | cons x t => rw [V_cons]; simp; omega
theorem kodd_is (n : Nat) {a : List UInt32} (ha : a.length ≤ 1000000) : kodd n a = some (decide (nV a % 2 = 1)) := by
 unfold kodd
 cases a with
 | nil => rfl
 | cons x t =>
  rw [ite_t (by simp <;> omega), gd_pos (by omega), gd_pos (by simp <;> omega), and1, V_mod2]
def okP (N E : Nat) : Bool := decide (62 ≤ (dB N).length) && (decide ((dB N).length ≤ 128) && (decide (N % 2 = 1) && (decide (E % 2 = 1) && (decide (3 ≤ E) && decide (E < N)))))
theorem okP_iff {N E : Nat} : okP N E = true ↔ 62 ≤ (dB N).length ∧ (dB N).length ≤ 128 ∧ N % 2 = 1 ∧ E % 2 = 1 ∧ 3 ≤ E ∧ E < N := by simp [okP]
theorem V_three : nV [3] = 3 := rfl
theorem kCheck_is {n : Nat} (hn : 18446744073709551616 ≤ n) {a b : List UInt32} (ha : a.length ≤ 1000000) (hb : b.length ≤ 1000000) : kCheck n a b = some (if okP (nV a) (nV b) then none else some 1) := by
 have no : ∀ {q : Prop}, ¬ (62 ≤ (dB (nV a)).length ∧ (dB (nV a)).length ≤ 128 ∧ nV a % 2 = 1 ∧ nV b % 2 = 1 ∧ 3 ≤ nV b ∧ nV b < nV a) → (some (some 1) : Option (Option Int)) = some (if okP (nV a) (nV b) then none else some 1) := fun h => by
  rw [if_neg (fun h' => h (okP_iff.1 h'))]
 unfold kCheck
 rw [ksize_is hn ha, Option.bind_some]
 by_cases h1 : 62 ≤ (dB (nV a)).length ∧ (dB (nV a)).length ≤ 128
 ·rw [if_pos h1.2, ite_f (by simp; omega), kodd_is n ha, Option.bind_some]
  by_cases h2 : nV a % 2 = 1
  ·rw [ite_f (by simp [h2]), kodd_is n hb, Option.bind_some]
   by_cases h3 : nV b % 2 = 1
   ·rw [ite_f (by simp [h3]), pCmp_is hn hb (by decide), Option.bind_some, V_three]
    by_cases h4 : nV b < 3
    ·rw [ite_t (by simpa using cmpN_neg.2 h4)]; exact no (q := True) (by omega)
    ·rw [ite_f (by simpa using fun h => h4 (cmpN_neg.1 h)), pCmp_is hn hb ha, Option.bind_some]
     by_cases h5 : nV b < nV a
     ·rw [ite_f (by simpa using cmpN_neg.2 h5), if_pos (okP_iff.2 ⟨h1.1, h1.2, h2, h3, by omega, h5⟩)]
     ·rw [ite_t (by simpa using fun h => h5 (cmpN_neg.1 h))]; exact no (q := True) (by omega)
   ·rw [ite_t (by simp [h3])]; exact no (q := True) (by omega)
  ·rw [ite_t (by simp [h2])]; exact no (q := True) (by omega)
 ·have : (if (dB (nV a)).length ≤ 128 then (((dB (nV a)).length : Nat) : Int) else -1) < 62 := by split <;> omega
  rw [ite_t (by simpa using this)]; exact no (q := True) (by omega)
def powS (b : List UInt8) (e N : Nat) : List UInt8 × Nat × Bool := if b.length = (dB N).length ∧ nB b < N then (padB (dB N).length (nB b ^ e % N), (dB N).length, true) else ([], 0, false)
theorem kpower_is {n : Nat} (hn : 18446744073709551616 ≤ n) {b : List UInt8} {e N : List UInt32} (hb : b.length ≤ 100000) (he : e.length ≤ 1000000) (hN : N.length ≤ 1000000) (hs : (dB (nV N)).length ≤ 128) (hD : (nD (nV e)).length ≤ 64) :
  kpower n b e N = some (powS b (nV e) (nV N)) := by
 unfold kpower powS
 have hDN := D_of_dB hs
 rw [ksize_is hn hN, Option.bind_some, if_pos hs, pRead_is hn hb, Option.bind_some]
 by_cases h1 : b.length = (dB (nV N)).length
 ·have hle : (dB (nB b)).length ≤ b.length := (dB_len _ _).2 (nB_lt b)
  have hDb := D_of_dB (v := nB b) (k := 128) (by omega)
  rw [if_neg (by omega), ite_f (by rfl), ite_f (by simp [h1])]
  dsimp only
  rw [pCmp_is hn (by omega) hN, Option.bind_some, V_D]
  by_cases h2 : nB b < nV N
  ·have hm : nB b ^ nV e % nV N < nV N := Nat.mod_lt _ (by omega)
   have hw := (dB_len _ _).2 (Nat.lt_trans hm ((dB_len (nV N) _).1 (Nat.le_refl _)))
   have hDm := D_of_dB (Nat.le_trans hw hs)
   rw [ite_f (by simpa using cmpN_neg.2 h2), pExp_is hn (by omega) he hN, V_D, if_pos ⟨by omega, hD, by omega⟩, if_neg (by omega), Option.bind_some, ite_f (by rfl)]
   dsimp only
   rw [pWrite_k hn (by omega) (by omega), Option.bind_some, V_D, if_pos (by omega), if_pos ((dB_len _ _).1 hw), if_pos ⟨h1, h2⟩]
   rfl
  ·rw [ite_t (by simpa using fun h => h2 (cmpN_neg.1 h)), if_neg (fun h => h2 h.2)]
 ·rw [if_neg (c := b.length = (dB (nV N)).length ∧ nB b < nV N) (fun h => h1 h.1)]
  split
  ·rw [ite_t (by rfl)]
  ·rw [ite_f (by rfl), ite_t (by simp only [bne_iff_ne]; omega)]
theorem qodd_is (n : Nat) {v : Nat} (h : (nE v).length ≤ 1000000) : qodd n (nE v) = some (decide (v % 2 = 1)) := by
 unfold qodd
 by_cases h0 : v = 0
 ·subst h0; rw [E_zero]; rfl
 ·have hl := (E_last h0).1
  have e := E_get v 0
  simp only [Nat.pow_zero, Nat.div_one] at e
  rw [ite_t (by simp <;> omega), gd_pos (by omega), gd_pos (by omega), gd_pos (by decide), e, Int.tmod_eq_emod_of_nonneg (by omega)]
  congr 1
  rw [Bool.eq_iff_iff]; simp only [beq_iff_eq, decide_eq_true_eq]; omega
theorem E_three : nE 3 = [3] := E_one (by decide) (by decide)
theorem qPublic_is {n : Nat} (hn : 18446744073709551616 ≤ n) {a b : List UInt32} (ha : a.length ≤ 10000) (hb : b.length ≤ 10000) : qPublic n a b = some (okP (nV a) (nV b)) := by
 have hEa := E2 (nV a) (k := a.length) D_le
 have hEb := E2 (nV b) (k := b.length) D_le
 unfold qPublic okP
 rw [rOf_is hn (by omega), Option.bind_some, rOf_is hn (by omega), Option.bind_some]
 dsimp only
 rw [rSize_is n (by omega), Option.bind_some]
 by_cases h1 : 62 ≤ (dB (nV a)).length
 ·rw [ite_t (by simp; omega), decide_eq_true h1]
  by_cases h2 : (dB (nV a)).length ≤ 128
  ·rw [ite_t (by simp; omega), decide_eq_true h2, qodd_is n (by omega), Option.bind_some]
   by_cases h3 : nV a % 2 = 1
   ·rw [ite_t (by simpa using h3), decide_eq_true h3, qodd_is n (by omega), Option.bind_some]
    by_cases h4 : nV b % 2 = 1
    ·rw [ite_t (by simpa using h4), decide_eq_true h4, ← E_three, rCmp_is hn (by omega) (by rw [E_three]; simp), Option.bind_some]
     by_cases h5 : 3 ≤ nV b
     ·rw [ite_t (by simp only [decide_eq_true_eq]; have := @cmpN_neg (nV b) 3; omega), decide_eq_true h5, rCmp_is hn (by omega) (by omega), Option.bind_some]
      simp only [Bool.true_and, Option.some.injEq]
      exact decide_eq_decide.2 cmpN_neg
     ·rw [ite_f (by simp only [decide_eq_false_iff_not]; have := @cmpN_neg (nV b) 3; omega), decide_eq_false h5]; rfl
    ·rw [ite_f (by simpa using h4), decide_eq_false h4]; rfl
   ·rw [ite_f (by simpa using h3), decide_eq_false h3]; rfl
  ·rw [ite_f (by simp; omega), decide_eq_false h2]; rfl
 ·rw [ite_f (by simp; omega), decide_eq_false h1]; rfl
theorem qSize_is {n : Nat} (hn : 18446744073709551616 ≤ n) {a : List UInt32} (ha : a.length ≤ 10000) : qSize n a = some (((dB (nV a)).length : Nat) : Int) := by
 have hEa := E2 (nV a) (k := a.length) D_le
 unfold qSize
 rw [rOf_is hn (by omega), Option.bind_some]
 dsimp only
 rw [rSize_is n (by omega), Option.bind_some]
theorem rWrite_l1_k (n : Nat) (v s : Nat) (hl : (nE v).length ≤ 100000) (hs : s ≤ 1000000) : ∀ (m i fu : Nat) (l : List UInt8), i + m = s → m < fu → Wr l s i v →
  ∃ r, rWrite_l1 n (nE v) (s : Int) fu l (i : Int) = some (r, s, true) ∧ r.length = s ∧ nB r = v % 256 ^ s := by
 intro m
 induction m with
 | zero =>
  intro i fu l hi hf hw
  cases fu with
  | zero => omega
  | succ fu =>
   obtain rfl : i = s := by omega
   exact ⟨l, by rw [rWrite_l1, ite_f (by simp)]; simp, hw.len, hw.val⟩
 | succ m ih =>
  intro i fu l hi hf hw
  cases fu with
  | zero => omega
  | succ fu =>
   have t1 : Int.tdiv (i : Int) 2 = ((i / 2 : Nat) : Int) := by rw [Int.tdiv_eq_ediv_of_nonneg (by omega)]; omega
   have t2 : Int.tmod (i : Int) 2 = ((i % 2 : Nat) : Int) := by rw [Int.tmod_eq_emod_of_nonneg (by omega)]; omega
   have e1 : ((s : Int) - 1 - (i : Int)).toNat = s - 1 - i := by omega
   have hE := E_get v (i / 2)
   rw [rWrite_l1, ite_t (by simp <;> omega), gd_pos (by decide), t1, t2, gd_pos (okI64 (by omega) (by omega))]
   by_cases hin : i / 2 < (nE v).length
   ·have key : ∀ x : Nat, x % 256 = v / 256 ^ i % 256 → x < 65536 → ∃ r, rWrite_j1 n (nE v) (s : Int) l (i : Int) (rWrite_l1 n (nE v) (s : Int) fu) (x : Int) = some (r, s, true) ∧ r.length = s ∧ nB r = v % 256 ^ s := by
     intro x hx hx2
     unfold rWrite_j1
     have t3 : Int.tmod (x : Int) 256 = ((x % 256 : Nat) : Int) := by rw [Int.tmod_eq_emod_of_nonneg (by omega)]; omega
     rw [gd_pos (okI64 (by omega) (by omega)), gd_pos (okI64 (by omega) (by omega)), gd_pos (by decide), gd_pos (by omega), gd_pos (by rw [Int.toNat_natCast]; omega), gd_pos (okI64 (by omega) (by omega)), t3, e1]
     refine ih (i + 1) fu _ (by omega) (by omega) (hw.step (by omega) ?_)
     rw [← hx]; simp [UInt8.ofInt]; omega
    rw [ite_t (by simp <;> omega), gd_pos (by decide), gd_pos (okI64 (by omega) (by omega)), gd_pos (by omega), gd_pos (by omega), gd_pos (by decide), Int.toNat_natCast, hE]
    have hb := digit_byte v i
    have hlt : v / 65536 ^ (i / 2) % 65536 < 65536 := Nat.mod_lt _ (by decide)
    by_cases h : i % 2 = 1
    ·rw [if_pos h] at hb
     have t4 : Int.tdiv ((v / 65536 ^ (i / 2) % 65536 : Nat) : Int) 256 = ((v / 65536 ^ (i / 2) % 65536 / 256 : Nat) : Int) := by rw [Int.tdiv_eq_ediv_of_nonneg (by omega)]; omega
     rw [ite_t (by simp only [beq_iff_eq]; omega), t4]
     generalize v / 65536 ^ (i / 2) % 65536 = q at *
     rw [gd_pos (by decide), gd_pos (okI64 (by omega) (by omega))]
     exact key (q / 256) hb (by omega)
    ·rw [if_neg h] at hb
     rw [ite_f (by simp only [beq_eq_false_iff_ne]; omega)]
     exact key _ hb hlt
   ·have hv : v < 256 ^ i := by
     have h1 := (E_len v _).1 (Nat.le_refl _)
     rw [show (65536 : Nat) = 256 ^ 2 from rfl, ← Nat.pow_mul] at h1
     exact Nat.lt_of_lt_of_le h1 (Nat.pow_le_pow_right (by decide) (by omega))
    have hv2 : v < 256 ^ s := Nat.lt_of_lt_of_le hv (Nat.pow_le_pow_right (by decide) (by omega))
    exact ⟨l, by rw [ite_f (by simp <;> omega), Int.toNat_natCast], hw.len, by rw [hw.val, Nat.mod_eq_of_lt hv, Nat.mod_eq_of_lt hv2]⟩
theorem rWrite_p {n : Nat} (hn : 18446744073709551616 ≤ n) {v s : Nat} (hl : (nE v).length ≤ 100000) (hs : s ≤ 1000000) (hv : v < 256 ^ s) : rWrite n (nE v) (s : Int) = some (padB s v, s, true) := by
 obtain ⟨r, h1, h2, h3⟩ := rWrite_l1_k n v s hl hs s 0 n _ (by omega) (by omega) (Wr.start _ _)
 have := (dB_len _ _).2 hv
 unfold rWrite
 rw [ite_f (by simp <;> omega), rSize_is n hl, Option.bind_some, ite_f (by simp <;> omega), gd_pos (by omega), gd_pos rfl, gd_pos (by unfold rmB; omega), Int.toNat_natCast]
 rw [Nat.mod_eq_of_lt hv] at h3
 rw [← eq_padB h2 h3]
 exact h1
theorem E_of_dB' {v k : Nat} (h : (dB v).length ≤ k) : (nE v).length ≤ k := by
 rw [E_len]
 exact Nat.lt_of_lt_of_le ((dB_len _ _).1 h) (Nat.pow_le_pow_left (by decide) _)
theorem qPower_is {n : Nat} (hn : 18446744073709551616 ≤ n) {b : List UInt8} {e N : List UInt32} (hb : b.length ≤ 1000) (he : e.length ≤ 500) (hN : N.length ≤ 500) :
  qPower n b e N = some (powS b (nV e) (nV N)) := by
 have hEN := E2 (nV N) (k := N.length) D_le
 have hEe := E2 (nV e) (k := e.length) D_le
 have hEb := E_of_dB' ((dB_len (nB b) _).2 (nB_lt b))
 unfold qPower powS
 rw [rOf_is hn (by omega), Option.bind_some, rBytes_is hn (by omega), Option.bind_some]
 dsimp only
 rw [rSize_is n (by omega), Option.bind_some]
 by_cases h1 : b.length = (dB (nV N)).length
 ·rw [ite_f (by simp [h1]), rCmp_is hn (by omega) (by omega), Option.bind_some]
  by_cases h2 : nB b < nV N
  ·have hm : nB b ^ nV e % nV N < nV N := Nat.mod_lt _ (by omega)
   have hw := Nat.lt_trans hm ((dB_len (nV N) _).1 (Nat.le_refl _))
   have hEm := E_mono (Nat.le_of_lt hm)
   rw [ite_f (by simpa using cmpN_neg.2 h2), rOf_is hn (by omega), Option.bind_some]
   dsimp only
   rw [rExp_is hn (by omega) (by omega) (by omega) (by omega), Option.bind_some]
   dsimp only
   rw [h1, rWrite_p hn (by omega) (by omega) hw, Option.bind_some, if_pos ⟨rfl, h2⟩]
  ·rw [ite_t (by simpa using fun h => h2 (cmpN_neg.1 h)), if_neg (fun h => h2 h.2)]
 ·rw [ite_t (by simp only [bne_iff_ne]; omega), if_neg (fun h => h1 h.1)]
theorem klight_is (n : Nat) (a b c : List UInt32) : klight n a b c = some (decide (a.length ≤ 70 ∧ b.length ≤ 70 ∧ c.length ≤ 70)) := by
 unfold klight
 by_cases h1 : a.length ≤ 70
 ·rw [ite_t (by simp; omega)]
  by_cases h2 : b.length ≤ 70
  ·rw [ite_t (by simp; omega)]; congr 1; exact decide_eq_decide.2 (by omega)
  ·rw [ite_f (by simp; omega), decide_eq_false (by omega)]
 ·rw [ite_f (by simp; omega), decide_eq_false (by omega)]
def pfx : List UInt8 := [48, 49, 48, 13, 6, 9, 96, 134, 72, 1, 101, 3, 4, 2, 1, 5, 0, 4, 32]
def laidS (b : List UInt8) (k : Nat) : List UInt8 := [0, 1] ++ List.replicate (k - 54) 255 ++ [0] ++ pfx ++ Dg b
theorem laidS_len {b : List UInt8} {k : Nat} (h : 54 ≤ k) : (laidS b k).length = k := by
 unfold laidS pfx; simp [Dg_len]; omega
theorem klaid_is {n : Nat} (hn : 18446744073709551616 ≤ n) {b : List UInt8} {k : Nat} (hb : b.length ≤ 100000) (h1 : 54 ≤ k) (h2 : k ≤ 200) : klaid n b (k : Int) = some (laidS b k) := by
 have e : ([pfx, Dg b] : List (List UInt8)).flatten = pfx ++ Dg b := by simp
 have el : (pfx ++ Dg b).length = 51 := by unfold pfx; simp [Dg_len]
 have e3 : ((k : Int) - 3 - ((51 : Nat) : Int)).toNat = k - 54 := by omega
 have e2 : ([[0, 1], List.replicate (k - 54) (([255] : List UInt8).getD 0 0), [0], pfx ++ Dg b] : List (List UInt8)).flatten = laidS b k := by unfold laidS; simp
 unfold klaid
 rw [show kprefix n = some () from rfl, Option.bind_some, gsum_is (by omega) hb, Option.bind_some]
 change gd (([pfx, Dg b] : List (List UInt8)).length ≤ 1000000) (gd (([pfx, Dg b] : List (List UInt8)).flatten.length ≤ 1000000000) (gd (okI .i64 ((k : Int) - 3)) (gd (okI .i64 ((k : Int) - 3 - ((([pfx, Dg b] : List (List UInt8)).flatten.length : Nat) : Int))) (gd (([255] : List UInt8).length = 1) (gd (0 ≤ ((k : Int) - 3 - ((([pfx, Dg b] : List (List UInt8)).flatten.length : Nat) : Int))) (gd (((k : Int) - 3 - ((([pfx, Dg b] : List (List UInt8)).flatten.length : Nat) : Int)) ≤ 200)
  (gd (([[0, 1], List.replicate ((k : Int) - 3 - ((([pfx, Dg b] : List (List UInt8)).flatten.length : Nat) : Int)).toNat (([255] : List UInt8).getD 0 0), [0], ([pfx, Dg b] : List (List UInt8)).flatten] : List (List UInt8)).length ≤ 1000000) (gd (([[0, 1], List.replicate ((k : Int) - 3 - ((([pfx, Dg b] : List (List UInt8)).flatten.length : Nat) : Int)).toNat (([255] : List UInt8).getD 0 0), [0], ([pfx, Dg b] : List (List UInt8)).flatten] : List (List UInt8)).flatten.length ≤ 1000000000)
  (some (([[0, 1], List.replicate ((k : Int) - 3 - ((([pfx, Dg b] : List (List UInt8)).flatten.length : Nat) : Int)).toNat (([255] : List UInt8).getD 0 0), [0], ([pfx, Dg b] : List (List UInt8)).flatten] : List (List UInt8)).flatten)))))))))) = _
 rw [e, el, e3, e2, laidS_len h1]
 rw [gd_pos (by simp), gd_pos (by omega), gd_pos (okI64 (by omega) (by omega)), gd_pos (okI64 (by omega) (by omega)), gd_pos (by rfl), gd_pos (by omega), gd_pos (by omega), gd_pos (by simp), gd_pos (by omega)]
theorem qLaid_l1_is {b : List UInt8} (hb : b.length ≤ 5000) {k : Nat} (h1 : 54 ≤ k) (h2 : k ≤ 1000) : ∀ (m i fu : Nat), i + m = k - 54 → m < fu → qLaid_l1 N64 b (k : Int) fu ([0, 1] ++ List.replicate i 255) (i : Int) = some (laidS b k) := by
 intro m
 induction m with
 | zero =>
  intro i fu hi hf
  cases fu with
  | zero => omega
  | succ fu =>
   rw [qLaid_l1, gd_pos (okI64 (by omega) (by omega)), ite_f (by simp; omega), gd_pos (by unfold rmB; simp; omega), made_is, Option.bind_some]
   dsimp only
   rw [sumN (by decide) hb, Option.bind_some, gd_pos (by unfold rmB; rw [Dg_len]; simp; omega)]
   unfold laidS pfx
   rw [show i = k - 54 by omega]
   simp
 | succ m ih =>
  intro i fu hi hf
  cases fu with
  | zero => omega
  | succ fu =>
   rw [qLaid_l1, gd_pos (okI64 (by omega) (by omega)), ite_t (by simp; omega), gd_pos (by unfold rmB; simp; omega), gd_pos (okI64 (by omega) (by omega))]
   have := ih (i + 1) fu (by omega) (by omega)
   rw [List.append_assoc, show List.replicate i (255 : UInt8) ++ [255] = List.replicate (i + 1) 255 from List.replicate_succ'.symm]
   exact this
theorem qLaid_is {b : List UInt8} (hb : b.length ≤ 5000) {k : Nat} (h1 : 54 ≤ k) (h2 : k ≤ 1000) : qLaid N64 b (k : Int) = some (laidS b k) := by
 have := qLaid_l1_is hb h1 h2 (k - 54) 0 N64 (by omega) (by unfold N64; omega)
 exact this
theorem D64 {N D : Nat} (k2 : (dB N).length ≤ 128) (h : D < N) : (nD D).length ≤ 64 := Nat.le_trans (D_mono (Nat.le_of_lt h)) (by have := D_of_dB k2; omega)
def verS (N E : Nat) (b sig : List UInt8) : Bool := (powS sig E N).2.2 && ((powS sig E N).1 == laidS b (dB N).length)
theorem kVerify_is {n : Nat} (hn : 18446744073709551616 ≤ n) {N E : List UInt32} {b sig : List UInt8} (hN : N.length ≤ 1000000) (hE : E.length ≤ 1000000) (hb : b.length ≤ 100000) (hs : sig.length ≤ 100000) :
  kVerify n N E b sig = some (if okP (nV N) (nV E) then (if verS (nV N) (nV E) b sig then none else some 8) else some 1) := by
 unfold kVerify
 rw [kCheck_is hn hN hE, Option.bind_some]
 cases hP : okP (nV N) (nV E) with
 | false => rfl
 | true =>
  obtain ⟨k1, k2, _, _, _, hlt⟩ := okP_iff.1 hP
  rw [if_pos rfl, ite_f (by rfl), kpower_is hn hs hE hN k2 (D64 k2 hlt), Option.bind_some, if_pos rfl]
  unfold verS
  cases h : (powS sig (nV E) (nV N)).2.2 with
  | false => rfl
  | true =>
   rw [ite_f (by rfl), ksize_is hn hN, Option.bind_some, if_pos k2, klaid_is hn hb (by omega) (by omega), Option.bind_some, show ∀ x y : List UInt8, kEqual n x y = some (x == y) from fun _ _ => rfl, Option.bind_some]
   cases (powS sig (nV E) (nV N)).1 == laidS b (dB (nV N)).length <;> rfl
theorem kcut_is (n : Nat) (a : List UInt8) (k : Nat) : ∃ m, kcut n a (k : Int) = some (a, m) ∧ ((a.drop 0).take m).length ≤ k := by
 unfold kcut
 by_cases h : k < a.length
 ·exact ⟨k, by rw [ite_t (by simp; omega), gd_pos (by omega), gd_pos (by omega), Int.toNat_natCast], by simp; omega⟩
 ·exact ⟨a.length, by rw [ite_f (by simp; omega)], by simp; omega⟩
theorem kup_is : kup N64 = some true := by decide +kernel
theorem hN64 : 18446744073709551616 ≤ N64 := Nat.le_refl _
end Go.Sx
end
section
namespace Go.Proofs.YthichmclbiggmaaDoor
open Go.RowKit Go.Ch Go.Sx
def tabL_dvverifies : List (TypeId × Ti) := [(5, ⟨.int .u8, 1, 1, true, some [.int .u8]⟩),
 (9, ⟨.str, 1, 16, true, some [.str]⟩),
 (23, ⟨.sl 55, 1, 24, false, some [.nils]⟩),
 (25, ⟨.st [(23, 0), (23, 1), (23, 2)], 3, 72, false, some [.nils, .nils, .nils]⟩),
 (26, ⟨.sl 5, 1, 24, false, some [.nils]⟩),
 (31, ⟨.ifc, 1, 16, true, some [.ifc]⟩),
 (34, ⟨.int .i64, 1, 8, true, some [.int .i64]⟩),
 (40, ⟨.st [(23, 0), (23, 1)], 2, 48, false, some [.nils, .nils]⟩),
 (55, ⟨.int .u32, 1, 4, true, some [.int .u32]⟩)]
def tab_dvverifies : Tab := fun t => (tabL_dvverifies).lookup t
theorem tabE_dvverifies : (tabL_dvverifies.map fun p => tiOf Tryd.prog p.1) = tabL_dvverifies.map fun p => some p.2 := by kernel_rfl
theorem tabO_dvverifies : TabOk Tryd.prog tab_dvverifies := tab_of tabE_dvverifies
def lVerifies (n : Nat) (a0_0 : List UInt32) (a0_1 : List UInt32) (a1 : List UInt8) (a2 : List UInt8) : Option (Bool) :=
 (kup n).bind fun r14 =>
 (klight n a0_0 a0_1 []).bind fun r20 =>
 bif (!r20) then
  some r14
 else
  bif (decide ((2 : Int) < ((a0_1.length : Nat) : Int))) then
   some r14
  else
   bif (decide ((300 : Int) < ((a2.length : Nat) : Int))) then
    some r14
   else
    (kcut n a1 300).bind fun r36 =>
    (kVerify n a0_0 a0_1 ((a1.drop 0).take r36.2) a2).bind fun r40 =>
    (qPublic n a0_0 a0_1).bind fun r42 =>
    bif (!r42) then
     bif r14 then
      gd (¬((r40 : Option Int) = none ∧ ((some 1) : Option Int) = none)) <|
      some (r40 == (some 1))
     else
      some false
    else
     (qPower n a2 a0_1 a0_0).bind fun r57 =>
     bif r57.2.2 then
      (qSize n a0_0).bind fun r67 =>
      (qLaid n ((a1.drop 0).take r36.2) r67).bind fun r68 =>
      bif r14 then
       bif (r57.1 == r68) then
        bif ((r40).isNone) then
         some true
        else
         bif (!(r57.1 == r68)) then
          gd (¬((r40 : Option Int) = none ∧ ((some 8) : Option Int) = none)) <|
          some (r40 == (some 8))
         else
          some false
       else
        bif (!(r57.1 == r68)) then
         gd (¬((r40 : Option Int) = none ∧ ((some 8) : Option Int) = none)) <|
         some (r40 == (some 8))
        else
         some false
      else
       some false
     else
      bif r14 then
       gd (¬((r40 : Option Int) = none ∧ ((some 8) : Option Int) = none)) <|
       some (r40 == (some 8))
      else
       some false
def lVerifies_R (r : Bool) : S := ⟨[(6, kB r)], [], []⟩
def lVerifies_ct (n : Nat) (r : Bool) : Ct := ctc (rSt (lC (cW 55) (lC (cW 55) lN))).rd fun _ y0 => ctc (rB 5).rd fun _ l1 => ctc (rB 5).rd fun _ l2 => ct0 fun H => ([lVerifies n y0.1 y0.2.1 l1 l2 = some r], shA H.length (kB r), shH H.length [])
theorem lVerifies_ok (n : Nat) (r : Bool) : FnOk Tryd.prog GK 4 (lVerifies_ct n r) := by
 refine fnok Tryd.func4 ?_
 refine HO_c (rSt (lC (cW 55) (lC (cW 55) lN))) fun p0 _ => ?_
 obtain ⟨l0_0, l0_1, _⟩ := p0
 refine HO_c (rB 5) fun l1 _ => HO_c (rB 5) fun l2 _ => HO_0 tabO_dvverifies (lVerifies_R r) [.tmp 6] [] 89 Tryd.func4 fun w hG h => ?_
 have hI : ∀ w', Kp (noB (fun _ => undef)) w w' → GK w' := fun _ hk => GK.keep hk.below hG
 have h : lVerifies n l0_0 l0_1 l1 l2 = some r := h
 unfold lVerifies at h
 have hT := tabO_dvverifies
 refine Vrs hT [2, 3, 4, 0, 1] ⟨[(1, kH 0), (2, kH 1), (3, kP 2 0)], [], [ob 5 l1, ob 5 l2, ⟨.blk, 40, 1, 2, .c [.wh 3, .wh 4]⟩, ow 55 l0_0, ow 55 l0_1]⟩ ?_
 obtain ⟨r14, g1, h⟩ := bind_some' h
 refine Vgs hT (fT 0 (kup_ok n r14) fN) [] [] [0, 1, 2, 3, 4] ⟨[(1, kH 0), (2, kH 1), (3, kP 2 0), (7, kB r14)], [], [ob 5 l1, ob 5 l2, ⟨.blk, 40, 1, 2, .c [.wh 3, .wh 4]⟩, ow 55 l0_0, ow 55 l0_1]⟩ (aP g1 aN) ?_
 obtain ⟨r20, g2, h⟩ := bind_some' h
 refine Vgs hT (fT 5 (klight_ok n r20) fN) [] [] [0, 1, 2, 3, 4] ⟨[(1, kH 0), (2, kH 1), (3, kP 2 0), (7, kB r14), (8, kB r20)], [], [ob 5 l1, ob 5 l2, ⟨.blk, 40, 1, 2, .c [.wh 3, .wh 4]⟩, ow 55 l0_0, ow 55 l0_1]⟩ (aP g2 aN) ?_
 refine W_seq ?_
 refine W_seq ?_
 rcases Bool.eq_false_or_eq_true (!r20) with g3 | g3
 ·replace h := bif_t h g3
  refine Vg hT fN [(2, true)] [] [0, 1, 2, 3, 4] ⟨[(1, kH 0), (2, kH 1), (3, kP 2 0), (7, kB r14), (33, kB true)], [], [ob 5 l1, ob 5 l2, ⟨.blk, 40, 1, 2, .c [.wh 3, .wh 4]⟩, ow 55 l0_0, ow 55 l0_1]⟩ (aP g3 aN) ?_
  refine Vi (true) (fun _ => ?_) (fun hb => by cases hb)
  refine Vrs hT [] ⟨[(6, kB r14)], [], []⟩ ?_
  refine Vc [] [] (lVerifies_R r14) (W_ret ?_)
  exact ⟨.inl rfl, by cases h; rfl⟩
 ·replace h := bif_f h g3
  rcases Bool.eq_false_or_eq_true (decide ((2 : Int) < ((l0_1.length : Nat) : Int))) with g4 | g4
  ·replace h := bif_t h g4
   refine Vg hT fN [(2, false), (8, true)] [] [0, 1, 2, 3, 4] ⟨[(1, kH 0), (2, kH 1), (3, kP 2 0), (7, kB r14), (33, kB true)], [], [ob 5 l1, ob 5 l2, ⟨.blk, 40, 1, 2, .c [.wh 3, .wh 4]⟩, ow 55 l0_0, ow 55 l0_1]⟩ (aP g3 (aP g4 aN)) ?_
   refine Vi (true) (fun _ => ?_) (fun hb => by cases hb)
   refine Vrs hT [] ⟨[(6, kB r14)], [], []⟩ ?_
   refine Vc [] [] (lVerifies_R r14) (W_ret ?_)
   exact ⟨.inl rfl, by cases h; rfl⟩
  ·replace h := bif_f h g4
   refine Vg hT fN [(2, false), (8, false)] [] [0, 1, 2, 3, 4] ⟨[(1, kH 0), (2, kH 1), (3, kP 2 0), (7, kB r14), (33, kB (decide ((300 : Int) < ((l2.length : Nat) : Int))))], [], [ob 5 l1, ob 5 l2, ⟨.blk, 40, 1, 2, .c [.wh 3, .wh 4]⟩, ow 55 l0_0, ow 55 l0_1]⟩ (aP g3 (aP g4 aN)) ?_
   refine Vi ((decide ((300 : Int) < ((l2.length : Nat) : Int)))) (fun g24 => ?_) (fun g24 => ?_)
   ·replace h := bif_t h g24
    refine Vrs hT [] ⟨[(6, kB r14)], [], []⟩ ?_
    refine Vc [] [] (lVerifies_R r14) (W_ret ?_)
    exact ⟨.inl rfl, by cases h; rfl⟩
   ·replace h := bif_f h g24
    refine W_skip ?_
    obtain ⟨r36, g5, h⟩ := bind_some' h
    refine Vgs hT (fT 1 (kcut_ok n r36) fN) [] [] [0, 1, 2, 3, 4] ⟨[(1, .c (.sl 0 0 r36.2)), (2, kH 1), (3, kP 2 0), (7, kB r14)], [], [ob 5 l1, ob 5 l2, ⟨.blk, 40, 1, 2, .c [.wh 3, .wh 4]⟩, ow 55 l0_0, ow 55 l0_1]⟩ (aP g5 aN) ?_
    obtain ⟨r40, g6, h⟩ := bind_some' h
    refine Vgs hT (fI 3 (kVerify_ok n r40) hI fN) [] [] [0, 1, 2, 3, 4] ⟨[(1, .c (.sl 0 0 r36.2)), (2, kH 1), (3, kP 2 0), (7, kB r14), (9, kE 34 r40)], [], [ob 5 l1, ob 5 l2, ⟨.blk, 40, 1, 2, .c [.wh 3, .wh 4]⟩, ow 55 l0_0, ow 55 l0_1]⟩ (aP g6 aN) ?_
    obtain ⟨r42, g7, h⟩ := bind_some' h
    refine Vgs hT (fT 1 (qPublic_ok n r42) fN) [] [] [0, 1, 2, 3, 4] ⟨[(1, .c (.sl 0 0 r36.2)), (2, kH 1), (3, kP 2 0), (7, kB r14), (9, kE 34 r40), (10, kB r42)], [], [ob 5 l1, ob 5 l2, ⟨.blk, 40, 1, 2, .c [.wh 3, .wh 4]⟩, ow 55 l0_0, ow 55 l0_1]⟩ (aP g7 aN) ?_
    refine W_seq ?_
    refine Vrs hT [0, 1, 2, 3, 4] ⟨[(1, .c (.sl 0 0 r36.2)), (2, kH 1), (3, kP 2 0), (7, kB r14), (9, kE 34 r40), (44, kB (!r42))], [], [ob 5 l1, ob 5 l2, ⟨.blk, 40, 1, 2, .c [.wh 3, .wh 4]⟩, ow 55 l0_0, ow 55 l0_1]⟩ ?_
    refine Vi ((!r42)) (fun g23 => ?_) (fun g23 => ?_)
    ·replace h := bif_t h g23
     refine W_seq ?_
     rcases Bool.eq_false_or_eq_true r14 with g8 | g8
     ·replace h := bif_t h g8
      obtain ⟨g9, h⟩ := gd_some h
      refine Vg hT fN [(1, true)] [] [] ⟨[(6, kB (r40 == (some 1)))], [], []⟩ (aP g8 (aP g9 aN)) ?_
      refine Vc [] [] (lVerifies_R (r40 == (some 1))) (W_ret ?_)
      exact ⟨.inl rfl, by cases h; rfl⟩
     ·replace h := bif_f h g8
      refine Vg hT fN [(1, false)] [] [] ⟨[(6, kB false)], [], []⟩ (aP g8 aN) ?_
      refine Vc [] [] (lVerifies_R false) (W_ret ?_)
      exact ⟨.inl rfl, by cases h; rfl⟩
    ·replace h := bif_f h g23
     refine W_skip ?_
     obtain ⟨r57, g10, h⟩ := bind_some' h
     refine Vgs hT (fT 5 (qPower_ok n r57) fN) [] [] [0, 2, 3, 4, 5] ⟨[(1, .c (.sl 0 0 r36.2)), (3, kP 1 0), (7, kB r14), (9, kE 34 r40), (11, kH 4), (12, kB r57.2.2)], [], [ob 5 l1, ⟨.blk, 40, 1, 2, .c [.wh 2, .wh 3]⟩, ow 55 l0_0, ow 55 l0_1, ⟨.row, 5, 1, r57.2.1, .b r57.1⟩]⟩ (aP g10 aN) ?_
     refine W_seq ?_
     rcases Bool.eq_false_or_eq_true r57.2.2 with g11 | g11
     ·replace h := bif_t h g11
      obtain ⟨r67, g12, h⟩ := bind_some' h
      obtain ⟨r68, g13, h⟩ := bind_some' h
      refine Vd hT (fT 7 (qSize_ok n r67) (fT 8 (qLaid_ok n r68) fN)) 10 [(1, true)] [(7, false), (9, false), (61, false), (63, false), (69, false)] [] [] ⟨[(7, kB r14), (9, kE 34 r40), (13, kB (r57.1 == r68))], [], []⟩ (aP g11 (aP g12 (aP g13 aN))) ?_
      refine W_seq ?_
      rcases Bool.eq_false_or_eq_true r14 with g14 | g14
      ·replace h := bif_t h g14
       rcases Bool.eq_false_or_eq_true (r57.1 == r68) with g15 | g15
       ·replace h := bif_t h g15
        rcases Bool.eq_false_or_eq_true ((r40).isNone) with g16 | g16
        ·replace h := bif_t h g16
         refine Vg hT fN [(1, true), (3, true), (7, true)] [] [] ⟨[(6, kB true)], [], []⟩ (aP g14 (aP g15 (aP g16 aN))) ?_
         refine Vc [] [] (lVerifies_R true) (W_ret ?_)
         exact ⟨.inl rfl, by cases h; rfl⟩
        ·replace h := bif_f h g16
         rcases Bool.eq_false_or_eq_true (!(r57.1 == r68)) with g17 | g17
         ·replace h := bif_t h g17
          obtain ⟨g18, h⟩ := gd_some h
          refine Vg hT fN [(1, true), (3, true), (7, false), (10, true)] [] [] ⟨[(6, kB (r40 == (some 8)))], [], []⟩ (aP g14 (aP g15 (aP g16 (aP g17 (aP g18 aN))))) ?_
          refine Vc [] [] (lVerifies_R (r40 == (some 8))) (W_ret ?_)
          exact ⟨.inl rfl, by cases h; rfl⟩
         ·replace h := bif_f h g17
          refine Vg hT fN [(1, true), (3, true), (7, false), (10, false)] [] [] ⟨[(6, kB false)], [], []⟩ (aP g14 (aP g15 (aP g16 (aP g17 aN)))) ?_
          refine Vc [] [] (lVerifies_R false) (W_ret ?_)
          exact ⟨.inl rfl, by cases h; rfl⟩
       ·replace h := bif_f h g15
        rcases Bool.eq_false_or_eq_true (!(r57.1 == r68)) with g19 | g19
        ·replace h := bif_t h g19
         obtain ⟨g20, h⟩ := gd_some h
         refine Vg hT fN [(1, true), (3, false), (10, true)] [] [] ⟨[(6, kB (r40 == (some 8)))], [], []⟩ (aP g14 (aP g15 (aP g19 (aP g20 aN)))) ?_
         refine Vc [] [] (lVerifies_R (r40 == (some 8))) (W_ret ?_)
         exact ⟨.inl rfl, by cases h; rfl⟩
        ·replace h := bif_f h g19
         refine Vg hT fN [(1, true), (3, false), (10, false)] [] [] ⟨[(6, kB false)], [], []⟩ (aP g14 (aP g15 (aP g19 aN))) ?_
         refine Vc [] [] (lVerifies_R false) (W_ret ?_)
         exact ⟨.inl rfl, by cases h; rfl⟩
      ·replace h := bif_f h g14
       refine Vg hT fN [(1, false)] [] [] ⟨[(6, kB false)], [], []⟩ (aP g14 aN) ?_
       refine Vc [] [] (lVerifies_R false) (W_ret ?_)
       exact ⟨.inl rfl, by cases h; rfl⟩
     ·replace h := bif_f h g11
      refine Vd hT fN 10 [(1, false)] [(7, false), (9, false), (61, false), (63, false), (69, false)] [] [] ⟨[(7, kB r14), (9, kE 34 r40), (13, kB false)], [], []⟩ (aP g11 aN) ?_
      refine W_seq ?_
      rcases Bool.eq_false_or_eq_true r14 with g21 | g21
      ·replace h := bif_t h g21
       obtain ⟨g22, h⟩ := gd_some h
       refine Vg hT fN [(1, true)] [] [] ⟨[(6, kB (r40 == (some 8)))], [], []⟩ (aP g21 (aP g22 aN)) ?_
       refine Vc [] [] (lVerifies_R (r40 == (some 8))) (W_ret ?_)
       exact ⟨.inl rfl, by cases h; rfl⟩
      ·replace h := bif_f h g21
       refine Vg hT fN [(1, false)] [] [] ⟨[(6, kB false)], [], []⟩ (aP g21 aN) ?_
       refine Vc [] [] (lVerifies_R false) (W_ret ?_)
       exact ⟨.inl rfl, by cases h; rfl⟩
end Go.Proofs.YthichmclbiggmaaDoor
end
section
namespace Go.Sx
open Go Go.RowKit Go.Ch Go.Proofs.YthichmclbiggmaaDoor
theorem lVerifies_is (N E : List UInt32) (b0 sig : List UInt8) : lVerifies N64 N E b0 sig = some true := by
 have hn := hN64
 unfold lVerifies
 rw [kup_is, Option.bind_some, klight_is, Option.bind_some]
 by_cases hl : N.length ≤ 70 ∧ E.length ≤ 70
 ·obtain ⟨hN, hE⟩ := hl
  rw [ite_f (by simp [hN, hE])]
  by_cases hE2 : E.length ≤ 2
  ·rw [ite_f (by simp; omega)]
   by_cases hs : sig.length ≤ 300
   ·obtain ⟨m, h1, h2⟩ := kcut_is N64 b0 300
    rw [ite_f (by simp; omega), show (300 : Int) = ((300 : Nat) : Int) from rfl, h1, Option.bind_some]
    dsimp only
    generalize (b0.drop 0).take m = b at h2
    rw [kVerify_is hn (by omega) (by omega) (by omega) (by omega), Option.bind_some, qPublic_is hn (by omega) (by omega), Option.bind_some]
    cases hP : okP (nV N) (nV E) with
    | false => rfl
    | true =>
     obtain ⟨k1, k2, _⟩ := okP_iff.1 hP
     rw [ite_f (by rfl), qPower_is hn (by omega) (by omega) (by omega), Option.bind_some, if_pos rfl]
     unfold verS
     cases h : (powS sig (nV E) (nV N)).2.2 with
     | false => rfl
     | true =>
      rw [ite_t rfl, qSize_is hn (by omega), Option.bind_some, qLaid_is (by omega) (by omega) (by omega), Option.bind_some]
      cases (powS sig (nV E) (nV N)).1 == laidS b (dB (nV N)).length <;> rfl
   ·rw [ite_t (by simp; omega)]
  ·rw [ite_t (by simp; omega)]
 ·rw [ite_t (by simp; omega)]
end Go.Sx
end
section
namespace Go.Sx
open Go Go.RowKit Go.Ch Go.Proofs.YthichmclbiggmaaDoor
end Go.Sx
namespace Go.Proofs.YthichmclbiggmaaDoor
open Go.RowKit Go.Ch Go.Sx
theorem rsaVerifies_c (w : World) (B0_0 : Nat) (v0_0 : Value) (l0_0 : List UInt32) (hv0_0 : Sl w B0_0 v0_0 (l0_0.map w32)) (B0_1 : Nat) (v0_1 : Value) (l0_1 : List UInt32) (hv0_1 : Sl w B0_1 v0_1 (l0_1.map w32)) (B1 : Nat) (v1 : Value) (l1 : List UInt8) (hv1 : Sl w B1 v1 (l1.map bU)) (B2 : Nat) (v2 : Value) (l2 : List UInt8) (hv2 : Sl w B2 v2 (l2.map bU)) (hG : GK w) :
  Calls Tryd.prog 4 #[.agg #[v0_0, v0_1], v1, v2] w (Ret fun v' w' => Ext w w' ∧ v' = .bool true) := by
 obtain ⟨p0_0, a0_0, b0_0⟩ := in_w hv0_0 55
 obtain ⟨p0_1, a0_1, b0_1⟩ := in_w hv0_1 55
 obtain ⟨p1, a1, b1⟩ := in_b hv1 5
 obtain ⟨p2, a2, b2⟩ := in_b hv2 5
 exact law_of (lVerifies_ok N64 true) (args := [.g 2 (.c [.wh 0, .wh 1]), .c (.wh 2), .c (.wh 3)]) (H := [⟨.ro false, 55, 1, l0_0.length, .w l0_0⟩, ⟨.ro false, 55, 1, l0_1.length, .w l0_1⟩, ⟨.ro false, 5, 1, l1.length, .b l1⟩, ⟨.ro false, 5, 1, l2.length, .b l2⟩]) (ρ := plL [p0_0, p0_1, p1, p2]) (vals := [.agg #[v0_0, v0_1], v1, v2]) rfl (allP_cons.2 ⟨lVerifies_is l0_0 l0_1 l1 l2, allP_nil⟩) hG (hpL (ps := [p0_0, p0_1, p1, p2]) (F2.cons b0_0 (F2.cons b0_1 (F2.cons b1 (F2.cons b2 F2.nil))))) (F2.cons ⟨[v0_0, v0_1], (F2.cons a0_0 (F2.cons a0_1 F2.nil)), rfl, rfl⟩ (F2.cons a1 (F2.cons a2 F2.nil)))
end Go.Proofs.YthichmclbiggmaaDoor
end
section
namespace Go.Ch
open Go.ChangeShapes Go.WideShapes Go.RowKit
theorem words_of_ints' {zs : List Int} (h : ∀ z ∈ zs, (Lit.int .u32 z).wf = true) : ∃ ws : List UInt32, zs.map (Value.int .u32) = ws.map w32 := by
 induction zs with
 | nil => exact ⟨[], rfl⟩
 | cons z zs ih =>
  obtain ⟨ws, h1⟩ := ih (fun y hy => h y (by simp [hy]))
  have h2 := h z (by simp)
  simp [Lit.wf, IntKind.min, IntKind.max, IntKind.signed, IntKind.bits] at h2
  refine ⟨UInt32.ofNat z.toNat :: ws, ?_⟩
  rw [List.map_cons, List.map_cons, h1]
  congr 1
  unfold w32
  congr 1
  simp
  omega
def natsB (P : Program) (t : TypeId) (n : Nat) : Bool := (match P.underlying t with
 | some (.struct fs) => fs.size == n && (List.range n).all fun i => match fs[i]? with
  | some f => f.offset == i && (match P.underlying f.type with | some (.slice e) => (match P.underlying e with | some (.int .u32) => P.cellsOf e == 1 | _ => false) | _ => false) && P.cellsOf f.type == 1
  | none => false
 | _ => false) && P.cellsOf t == n
theorem open_nats {H : Type} {enc : TypeId × Value → H} {P : Program} {W : World} {t : TypeId} {n : Nat} {v : Value} {d : DataW H} {p : List MemPlace} {base : Nat} {held : Bool} (hb : natsB P t n = true)
  (hok : Value.okWide P W .any base t v) (h : DataW.Trod enc P W 0 (fun _ => true) held t v d p) : ∃ l : List Value, l.length = n ∧ v = .agg l.toArray ∧ ∀ i, i < n → ∃ c ws, l[i]? = some c ∧ Sl W W.heap.size c (List.map w32 ws) := by
 unfold natsB at hb
 split at hb
 ·rename_i fs ht
  simp only [Bool.and_eq_true, beq_iff_eq, List.all_eq_true, List.mem_range] at hb
  obtain ⟨⟨hfs, hfa⟩, hct⟩ := hb
  obtain ⟨cs, rfl, hsz, _⟩ : ∃ cs, v = .agg cs ∧ cs.size = P.cellsOf t ∧ Row.okWide P W .any base t cs := by
   simpa [Value.okWide, ht] using hok
  obtain ⟨fuel, hf⟩ := h
  obtain ⟨xs, m, _, _, hl, hxl, hel⟩ := DataW.trod_struct ht hf
  obtain ⟨l⟩ := cs
  have hlen : l.length = n := by rw [← hct]; exact hsz
  refine ⟨l, hlen, rfl, fun i hi => ?_⟩
  have h0 := hfa i hi
  split at h0
  ·rename_i f hfi
   simp only [Bool.and_eq_true, beq_iff_eq] at h0
   obtain ⟨⟨ho, hu⟩, hc⟩ := h0
   split at hu
   ·rename_i e hue
    split at hu
    ·rename_i hee
     simp only [beq_iff_eq] at hu
     have h1 := hel i f hfi
     rw [hc, ho] at h1
     rw [List.getElem?_eq_getElem (show i < xs.length by rw [hxl, hfs]; exact hi)] at h1
     obtain ⟨a, ha⟩ : ∃ a, l[i]? = some a := ⟨l[i]'(by omega), List.getElem?_eq_getElem (by omega)⟩
     have hone : (l.drop i).take 1 = [a] := by
      obtain ⟨hi2, rfl⟩ := List.getElem?_eq_some_iff.1 ha
      rw [List.drop_eq_getElem_cons hi2]; rfl
     have h1' : DataW.trod enc P W 0 (fun _ => true) held m f.type ((l.drop i).take 1) = _ := h1
     rw [hone] at h1'
     have : ∃ ws, Sl W W.heap.size a (List.map w32 ws) := by
      rcases open_ints hue hee hu h1' with ⟨hcs, _⟩ | ⟨x, l, c, zs, hcs, _, hl, hm, hz, _, hcell, hwz⟩
      ·simp [Value.cells] at hcs
       subst hcs
       exact ⟨[], (sl_of_row (k := .u32) (w := W) (zs := []) (.inl ⟨rfl, rfl, rfl, rfl⟩)).1⟩
      ·simp [Value.cells] at hcs
       subst hcs
       obtain ⟨h1, h2⟩ := sl_of_row (k := .u32) (w := W) (zs := zs) (.inr ⟨_, rfl, hl, hm, by simpa using hz, hcell, hwz⟩)
       obtain ⟨l, hl⟩ := words_of_ints' h2
       exact ⟨l, by rw [← hl]; exact h1⟩
     obtain ⟨ws, hws⟩ := this
     exact ⟨a, ws, ha, hws⟩
    ·cases hu
   ·cases hu
  ·cases h0
 ·simp at hb
theorem open_nats2 {H : Type} {enc : TypeId × Value → H} {P : Program} {W : World} {t : TypeId} {v : Value} {d : DataW H} {p : List MemPlace} {base : Nat} {held : Bool} (hb : natsB P t 2 = true)
  (hok : Value.okWide P W .any base t v) (h : DataW.Trod enc P W 0 (fun _ => true) held t v d p) : ∃ (a b : Value) (x y : List UInt32), v = .agg #[a, b] ∧ Sl W W.heap.size a (x.map w32) ∧ Sl W W.heap.size b (y.map w32) := by
 obtain ⟨l, hl, rfl, hk⟩ := open_nats hb hok h
 match l, hl with
 | [a, b], _ =>
  obtain ⟨_, x, h0, hx⟩ := hk 0 (by decide)
  obtain ⟨_, y, h1, hy⟩ := hk 1 (by decide)
  simp at h0 h1
  subst h0; subst h1
  exact ⟨a, b, x, y, rfl, hx, hy⟩
end Go.Ch
end
