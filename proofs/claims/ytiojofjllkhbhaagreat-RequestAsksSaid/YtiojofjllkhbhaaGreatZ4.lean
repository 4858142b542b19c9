import Derived.Test.YtiojofjllkhbhaaGreatZ3
import Derived.Test.YtiojofjllkhbhaaGreatProg
import Derived.WalkKit
import Derived.Lib.Walk
import Derived.Lib.Strings
import Derived.Lib.Bytealg
import Derived.Lib.BytesEntry
import Derived.BigCall
set_option linter.unusedVariables false
set_option linter.unusedSimpArgs false
section
namespace Go.Proofs.YtiojofjllkhbhaaGreat
open Go.RowKit Go.Ch Go.Sx
def tabL_oa : List (TypeId × Ti) := [(3, ⟨.int .i64, 1, 8, true, some [.int .i64]⟩),
 (5, ⟨.int .u8, 1, 1, true, some [.int .u8]⟩),
 (9, ⟨.str, 1, 16, true, some [.str]⟩),
 (24, ⟨.sl 63, 1, 24, false, some [.nils]⟩),
 (32, ⟨.sl 5, 1, 24, false, some [.nils]⟩),
 (37, ⟨.int .i64, 1, 8, true, some [.int .i64]⟩),
 (63, ⟨.int .u32, 1, 4, true, some [.int .u32]⟩),
 (151, ⟨.int .u64, 1, 8, true, some [.int .u64]⟩)]
def tab_oa : Tab := fun t => (tabL_oa).lookup t
theorem tabE_oa : (tabL_oa.map fun p => tiOf Tryz.prog p.1) = tabL_oa.map fun p => some p.2 := by kernel_rfl
theorem tabO_oa : TabOk Tryz.prog tab_oa := tab_of tabE_oa
def pident (n : Nat) (a0 : List UInt32) : Option (Bool) :=
 bif (decide (((a0.length : Nat) : Int) < (2 : Int))) then
 some false
 else
 bif (decide ((16 : Int) < ((a0.length : Nat) : Int))) then
 some false
 else
 gd (0 ≤ (0 : Int)) <|
 gd ((0 : Int) < ((a0.length : Nat) : Int)) <|
 bif (decide ((2 : UInt32) < (a0.getD 0 0))) then
 some false
 else
 gd (0 ≤ (0 : Int)) <|
 gd ((0 : Int) < ((a0.length : Nat) : Int)) <|
 bif (decide ((a0.getD 0 0) < (2 : UInt32))) then
 gd (0 ≤ (1 : Int)) <|
 gd ((1 : Int) < ((a0.length : Nat) : Int)) <|
 some (decide ((a0.getD 1 0) < (40 : UInt32)))
 else
 gd (0 ≤ (1 : Int)) <|
 gd ((1 : Int) < ((a0.length : Nat) : Int)) <|
 some (decide ((((a0.getD 1 0).toUInt64) + (80 : UInt64)) < (4294967296 : UInt64)))
def pOid_l1 (n : Nat) (a0 : List UInt32) : Nat → List UInt8 → Int → Option (List UInt8 × Option Int)
 | 0, _, _ => none
 | fu_l1 + 1, l4_1, i23_1 =>
 bif (decide (i23_1 < (((a0.length - 2) : Nat) : Int))) then
 gd (0 ≤ i23_1) <|
 gd (i23_1 < (((a0.length - 2) : Nat) : Int)) <|
 gd (rmB (l4_1.length + ((grp (((a0.drop 2).take (a0.length - 2)).getD i23_1.toNat 0)).length)) 1) <|
 gd (okI .i64 (i23_1 + 1)) <|
 (pOid_l1 n a0 fu_l1) (l4_1 ++ (grp (((a0.drop 2).take (a0.length - 2)).getD i23_1.toNat 0))) (i23_1 + 1)
 else
 some (l4_1, none)
def pOid (n : Nat) (a0 : List UInt32) : Option (List UInt8 × Option Int) :=
 (pident n a0).bind fun r8 =>
 bif (!r8) then
  some ([], (some 1))
 else
  gd (0 ≤ (0 : Int)) <|
  gd ((0 : Int) < ((a0.length : Nat) : Int)) <|
  gd (0 ≤ (1 : Int)) <|
  gd ((1 : Int) < ((a0.length : Nat) : Int)) <|
  gd (0 ≤ (2 : Int)) <|
  gd ((2 : Int) ≤ ((a0.length : Nat) : Int)) <|
  pOid_l1 n a0 n (grp (((40 : UInt32) * (a0.getD 0 0)) + (a0.getD 1 0))) 0
def pText_j1 (n : Nat) (p5_2 : Bool) : Option (Option Int) :=
 bif (!p5_2) then
 some (some 2)
 else
 some none
def pText (n : Nat) (a0 : UInt8) (a1 : List UInt8) : Option (Option Int) :=
 bif (a0 == 12) then
 gd ((a1).length ≤ 1000000) <|
 pText_j1 n (ptsF a1)
 else
 bif (a0 == 19) then
 pText_j1 n (!((a1).any prtN))
 else
 bif (a0 == 22) then
 pText_j1 n (!((a1).any hiB))
 else
 some (some 1)
def rlater (n : Nat) (a0 : UInt8) : Option (Bool) :=
 bif (decide ((128 : UInt8) ≤ a0)) then
 some (decide (a0 < (192 : UInt8)))
 else
 some false
def rPoints_l2 (n : Nat) (a0 : List UInt8) (i3_2 : Int) (i5_8 : Int) (k_l1 : Int → Option (Bool)) : Nat → Int → Option (Bool)
 | 0, _ => none
 | fu_l2 + 1, i8_16 =>
  bif (decide (i8_16 ≤ i5_8)) then
   gd (okI .i64 (i3_2 + i8_16)) <|
   gd (0 ≤ (i3_2 + i8_16)) <|
   gd ((i3_2 + i8_16) < ((a0.length : Nat) : Int)) <|
   (rlater n (a0.getD ((i3_2 + i8_16).toNat) 0)).bind fun r90_20 =>
   bif (!r90_20) then
    some false
   else
    gd (okI .i64 (i8_16 + 1)) <|
    (rPoints_l2 n a0 i3_2 i5_8 k_l1 fu_l2) (i8_16 + 1)
  else
   gd (okI .i64 (i3_2 + 1)) <|
   gd (okI .i64 ((i3_2 + 1) + i5_8)) <|
   k_l1 ((i3_2 + 1) + i5_8)
def rPoints_l3 (n : Nat) (a0 : List UInt8) (i3_2 : Int) (i5_8 : Int) (k_l1 : Int → Option (Bool)) : Nat → Int → Option (Bool)
 | 0, _ => none
 | fu_l3 + 1, i8_17 =>
  bif (decide (i8_17 ≤ i5_8)) then
   gd (okI .i64 (i3_2 + i8_17)) <|
   gd (0 ≤ (i3_2 + i8_17)) <|
   gd ((i3_2 + i8_17) < ((a0.length : Nat) : Int)) <|
   (rlater n (a0.getD ((i3_2 + i8_17).toNat) 0)).bind fun r90_21 =>
   bif (!r90_21) then
    some false
   else
    gd (okI .i64 (i8_17 + 1)) <|
    (rPoints_l3 n a0 i3_2 i5_8 k_l1 fu_l3) (i8_17 + 1)
  else
   gd (okI .i64 (i3_2 + 1)) <|
   gd (okI .i64 ((i3_2 + 1) + i5_8)) <|
   k_l1 ((i3_2 + 1) + i5_8)
def rPoints_j5 (n : Nat) (a0 : List UInt8) (i3_2 : Int) (i5_8 : Int) (i6_17 : Int) (k_l1 : Int → Option (Bool)) (i7_17 : Int) : Option (Bool) :=
 gd (okI .i64 (i3_2 + i5_8)) <|
 bif (decide (((a0.length : Nat) : Int) ≤ (i3_2 + i5_8))) then
 some false
 else
 bif (decide ((0 : Int) < i5_8)) then
 gd (okI .i64 (i3_2 + 1)) <|
 gd (0 ≤ (i3_2 + 1)) <|
 gd ((i3_2 + 1) < ((a0.length : Nat) : Int)) <|
 bif (decide ((((a0.getD ((i3_2 + 1).toNat) 0).toNat : Nat) : Int) < i6_17)) then
 some false
 else
 gd (okI .i64 (i3_2 + 1)) <|
 gd (0 ≤ (i3_2 + 1)) <|
 gd ((i3_2 + 1) < ((a0.length : Nat) : Int)) <|
 bif (decide (i7_17 < (((a0.getD ((i3_2 + 1).toNat) 0).toNat : Nat) : Int))) then
 some false
 else
 rPoints_l2 n a0 i3_2 i5_8 k_l1 n 2
 else
 rPoints_l3 n a0 i3_2 i5_8 k_l1 n 2
def rPoints_j4 (n : Nat) (a0 : List UInt8) (i3_2 : Int) (i5_8 : Int) (i7_16 : Int) (k_l1 : Int → Option (Bool)) (i6_17 : Int) : Option (Bool) :=
 bif ((((a0.getD i3_2.toNat 0).toNat : Nat) : Int) == 244) then
 rPoints_j5 n a0 i3_2 i5_8 i6_17 k_l1 143
 else
 rPoints_j5 n a0 i3_2 i5_8 i6_17 k_l1 i7_16
def rPoints_j3 (n : Nat) (a0 : List UInt8) (i3_2 : Int) (i5_8 : Int) (i6_16 : Int) (k_l1 : Int → Option (Bool)) (i7_16 : Int) : Option (Bool) :=
 bif ((((a0.getD i3_2.toNat 0).toNat : Nat) : Int) == 240) then
 rPoints_j4 n a0 i3_2 i5_8 i7_16 k_l1 144
 else
 rPoints_j4 n a0 i3_2 i5_8 i7_16 k_l1 i6_16
def rPoints_j2 (n : Nat) (a0 : List UInt8) (i3_2 : Int) (i5_8 : Int) (k_l1 : Int → Option (Bool)) (i6_16 : Int) : Option (Bool) :=
 bif ((((a0.getD i3_2.toNat 0).toNat : Nat) : Int) == 237) then
 rPoints_j3 n a0 i3_2 i5_8 i6_16 k_l1 159
 else
 rPoints_j3 n a0 i3_2 i5_8 i6_16 k_l1 191
def rPoints_j1 (n : Nat) (a0 : List UInt8) (i3_2 : Int) (k_l1 : Int → Option (Bool)) (i5_8 : Int) : Option (Bool) :=
 bif ((((a0.getD i3_2.toNat 0).toNat : Nat) : Int) == 224) then
 rPoints_j2 n a0 i3_2 i5_8 k_l1 160
 else
 rPoints_j2 n a0 i3_2 i5_8 k_l1 128
def rPoints_l1 (n : Nat) (a0 : List UInt8) : Nat → Int → Option (Bool)
 | 0, _ => none
 | fu_l1 + 1, i3_2 =>
 bif (decide (i3_2 < ((a0.length : Nat) : Int))) then
 gd (0 ≤ i3_2) <|
 gd (i3_2 < ((a0.length : Nat) : Int)) <|
 bif (decide ((((a0.getD i3_2.toNat 0).toNat : Nat) : Int) < (128 : Int))) then
 rPoints_j1 n a0 i3_2 (rPoints_l1 n a0 fu_l1) 0
 else
 bif (decide ((194 : Int) ≤ (((a0.getD i3_2.toNat 0).toNat : Nat) : Int))) then
 bif (decide ((((a0.getD i3_2.toNat 0).toNat : Nat) : Int) ≤ (223 : Int))) then
 rPoints_j1 n a0 i3_2 (rPoints_l1 n a0 fu_l1) 1
 else
 bif (decide ((224 : Int) ≤ (((a0.getD i3_2.toNat 0).toNat : Nat) : Int))) then
 bif (decide ((((a0.getD i3_2.toNat 0).toNat : Nat) : Int) ≤ (239 : Int))) then
 rPoints_j1 n a0 i3_2 (rPoints_l1 n a0 fu_l1) 2
 else
 bif (decide ((240 : Int) ≤ (((a0.getD i3_2.toNat 0).toNat : Nat) : Int))) then
 bif (decide ((((a0.getD i3_2.toNat 0).toNat : Nat) : Int) ≤ (244 : Int))) then
 rPoints_j1 n a0 i3_2 (rPoints_l1 n a0 fu_l1) 3
 else
 some false
 else
 some false
 else
 bif (decide ((240 : Int) ≤ (((a0.getD i3_2.toNat 0).toNat : Nat) : Int))) then
 bif (decide ((((a0.getD i3_2.toNat 0).toNat : Nat) : Int) ≤ (244 : Int))) then
 rPoints_j1 n a0 i3_2 (rPoints_l1 n a0 fu_l1) 3
 else
 some false
 else
 some false
 else
 bif (decide ((224 : Int) ≤ (((a0.getD i3_2.toNat 0).toNat : Nat) : Int))) then
 bif (decide ((((a0.getD i3_2.toNat 0).toNat : Nat) : Int) ≤ (239 : Int))) then
 rPoints_j1 n a0 i3_2 (rPoints_l1 n a0 fu_l1) 2
 else
 bif (decide ((240 : Int) ≤ (((a0.getD i3_2.toNat 0).toNat : Nat) : Int))) then
 bif (decide ((((a0.getD i3_2.toNat 0).toNat : Nat) : Int) ≤ (244 : Int))) then
 rPoints_j1 n a0 i3_2 (rPoints_l1 n a0 fu_l1) 3
 else
 some false
 else
 some false
 else
 bif (decide ((240 : Int) ≤ (((a0.getD i3_2.toNat 0).toNat : Nat) : Int))) then
 bif (decide ((((a0.getD i3_2.toNat 0).toNat : Nat) : Int) ≤ (244 : Int))) then
 rPoints_j1 n a0 i3_2 (rPoints_l1 n a0 fu_l1) 3
 else
 some false
 else
 some false
 else
 some true
def rPoints (n : Nat) (a0 : List UInt8) : Option (Bool) :=
 rPoints_l1 n a0 n 0
def rText_j1 (n : Nat) (a0 : UInt8) (a1 : List UInt8) (i5_2 : Int) (k_l1 : Int → Option (Bool)) : Option (Bool) :=
 gd (okI .i64 (i5_2 + 1)) <|
 k_l1 (i5_2 + 1)
def rText_l2 (n : Nat) (a0 : UInt8) (a1 : List UInt8) (i5_2 : Int) (k_l1 : Int → Option (Bool)) : Nat → Int → Option (Bool)
 | 0, _ => none
 | fu_l2 + 1, i9_187 =>
 bif (decide (i9_187 < (([32, 39, 40, 41, 43, 44, 45, 46, 47, 58, 61, 63].length : Nat) : Int))) then
 gd (okI .i64 (i9_187 + 1)) <|
 (rText_l2 n a0 a1 i5_2 k_l1 fu_l2) (i9_187 + 1)
 else
 rText_j1 n a0 a1 i5_2 k_l1
def rText_l3 (n : Nat) (a0 : UInt8) (a1 : List UInt8) (i5_2 : Int) (k_l1 : Int → Option (Bool)) : Nat → Int → Option (Bool)
 | 0, _ => none
 | fu_l3 + 1, i9_188 =>
 bif (decide (i9_188 < (([32, 39, 40, 41, 43, 44, 45, 46, 47, 58, 61, 63].length : Nat) : Int))) then
 gd (okI .i64 (i9_188 + 1)) <|
 (rText_l3 n a0 a1 i5_2 k_l1 fu_l3) (i9_188 + 1)
 else
 rText_j1 n a0 a1 i5_2 k_l1
def rText_l4 (n : Nat) (a0 : UInt8) (a1 : List UInt8) (i5_2 : Int) (k_l1 : Int → Option (Bool)) : Nat → Bool → Int → Option (Bool)
 | 0, _, _ => none
 | fu_l4 + 1, p7_136, i9_189 =>
 bif (decide (i9_189 < (([32, 39, 40, 41, 43, 44, 45, 46, 47, 58, 61, 63].length : Nat) : Int))) then
 bif p7_136 then
 gd (okI .i64 (i9_189 + 1)) <|
 (rText_l4 n a0 a1 i5_2 k_l1 fu_l4) true (i9_189 + 1)
 else
 gd (0 ≤ i9_189) <|
 gd (i9_189 < (([32, 39, 40, 41, 43, 44, 45, 46, 47, 58, 61, 63].length : Nat) : Int)) <|
 gd (okI .i64 (i9_189 + 1)) <|
 (rText_l4 n a0 a1 i5_2 k_l1 fu_l4) ((a1.getD i5_2.toNat 0) == ([32, 39, 40, 41, 43, 44, 45, 46, 47, 58, 61, 63].getD i9_189.toNat 0)) (i9_189 + 1)
 else
 bif (!p7_136) then
 some false
 else
 rText_j1 n a0 a1 i5_2 k_l1
def rText_l5 (n : Nat) (a0 : UInt8) (a1 : List UInt8) (i5_2 : Int) (k_l1 : Int → Option (Bool)) : Nat → Bool → Int → Option (Bool)
 | 0, _, _ => none
 | fu_l5 + 1, p7_137, i9_190 =>
 bif (decide (i9_190 < (([32, 39, 40, 41, 43, 44, 45, 46, 47, 58, 61, 63].length : Nat) : Int))) then
 bif p7_137 then
 gd (okI .i64 (i9_190 + 1)) <|
 (rText_l5 n a0 a1 i5_2 k_l1 fu_l5) true (i9_190 + 1)
 else
 gd (0 ≤ i9_190) <|
 gd (i9_190 < (([32, 39, 40, 41, 43, 44, 45, 46, 47, 58, 61, 63].length : Nat) : Int)) <|
 gd (okI .i64 (i9_190 + 1)) <|
 (rText_l5 n a0 a1 i5_2 k_l1 fu_l5) ((a1.getD i5_2.toNat 0) == ([32, 39, 40, 41, 43, 44, 45, 46, 47, 58, 61, 63].getD i9_190.toNat 0)) (i9_190 + 1)
 else
 bif (!p7_137) then
 some false
 else
 rText_j1 n a0 a1 i5_2 k_l1
def rText_l6 (n : Nat) (a0 : UInt8) (a1 : List UInt8) (i5_2 : Int) (k_l1 : Int → Option (Bool)) : Nat → Bool → Int → Option (Bool)
 | 0, _, _ => none
 | fu_l6 + 1, p7_138, i9_191 =>
 bif (decide (i9_191 < (([32, 39, 40, 41, 43, 44, 45, 46, 47, 58, 61, 63].length : Nat) : Int))) then
 bif p7_138 then
 gd (okI .i64 (i9_191 + 1)) <|
 (rText_l6 n a0 a1 i5_2 k_l1 fu_l6) true (i9_191 + 1)
 else
 gd (0 ≤ i9_191) <|
 gd (i9_191 < (([32, 39, 40, 41, 43, 44, 45, 46, 47, 58, 61, 63].length : Nat) : Int)) <|
 gd (okI .i64 (i9_191 + 1)) <|
 (rText_l6 n a0 a1 i5_2 k_l1 fu_l6) ((a1.getD i5_2.toNat 0) == ([32, 39, 40, 41, 43, 44, 45, 46, 47, 58, 61, 63].getD i9_191.toNat 0)) (i9_191 + 1)
 else
 bif (!p7_138) then
 some false
 else
 rText_j1 n a0 a1 i5_2 k_l1
def rText_l7 (n : Nat) (a0 : UInt8) (a1 : List UInt8) (i5_2 : Int) (k_l1 : Int → Option (Bool)) : Nat → Bool → Int → Option (Bool)
 | 0, _, _ => none
 | fu_l7 + 1, p7_139, i9_192 =>
 bif (decide (i9_192 < (([32, 39, 40, 41, 43, 44, 45, 46, 47, 58, 61, 63].length : Nat) : Int))) then
 bif p7_139 then
 gd (okI .i64 (i9_192 + 1)) <|
 (rText_l7 n a0 a1 i5_2 k_l1 fu_l7) true (i9_192 + 1)
 else
 gd (0 ≤ i9_192) <|
 gd (i9_192 < (([32, 39, 40, 41, 43, 44, 45, 46, 47, 58, 61, 63].length : Nat) : Int)) <|
 gd (okI .i64 (i9_192 + 1)) <|
 (rText_l7 n a0 a1 i5_2 k_l1 fu_l7) ((a1.getD i5_2.toNat 0) == ([32, 39, 40, 41, 43, 44, 45, 46, 47, 58, 61, 63].getD i9_192.toNat 0)) (i9_192 + 1)
 else
 bif (!p7_139) then
 some false
 else
 rText_j1 n a0 a1 i5_2 k_l1
def rText_l8 (n : Nat) (a0 : UInt8) (a1 : List UInt8) (i5_2 : Int) (k_l1 : Int → Option (Bool)) : Nat → Int → Option (Bool)
 | 0, _ => none
 | fu_l8 + 1, i9_193 =>
 bif (decide (i9_193 < (([32, 39, 40, 41, 43, 44, 45, 46, 47, 58, 61, 63].length : Nat) : Int))) then
 gd (okI .i64 (i9_193 + 1)) <|
 (rText_l8 n a0 a1 i5_2 k_l1 fu_l8) (i9_193 + 1)
 else
 rText_j1 n a0 a1 i5_2 k_l1
def rText_l9 (n : Nat) (a0 : UInt8) (a1 : List UInt8) (i5_2 : Int) (k_l1 : Int → Option (Bool)) : Nat → Bool → Int → Option (Bool)
 | 0, _, _ => none
 | fu_l9 + 1, p7_140, i9_194 =>
 bif (decide (i9_194 < (([32, 39, 40, 41, 43, 44, 45, 46, 47, 58, 61, 63].length : Nat) : Int))) then
 bif p7_140 then
 gd (okI .i64 (i9_194 + 1)) <|
 (rText_l9 n a0 a1 i5_2 k_l1 fu_l9) true (i9_194 + 1)
 else
 gd (0 ≤ i9_194) <|
 gd (i9_194 < (([32, 39, 40, 41, 43, 44, 45, 46, 47, 58, 61, 63].length : Nat) : Int)) <|
 gd (okI .i64 (i9_194 + 1)) <|
 (rText_l9 n a0 a1 i5_2 k_l1 fu_l9) ((a1.getD i5_2.toNat 0) == ([32, 39, 40, 41, 43, 44, 45, 46, 47, 58, 61, 63].getD i9_194.toNat 0)) (i9_194 + 1)
 else
 bif (!p7_140) then
 some false
 else
 rText_j1 n a0 a1 i5_2 k_l1
def rText_l10 (n : Nat) (a0 : UInt8) (a1 : List UInt8) (i5_2 : Int) (k_l1 : Int → Option (Bool)) : Nat → Bool → Int → Option (Bool)
 | 0, _, _ => none
 | fu_l10 + 1, p7_141, i9_195 =>
 bif (decide (i9_195 < (([32, 39, 40, 41, 43, 44, 45, 46, 47, 58, 61, 63].length : Nat) : Int))) then
 bif p7_141 then
 gd (okI .i64 (i9_195 + 1)) <|
 (rText_l10 n a0 a1 i5_2 k_l1 fu_l10) true (i9_195 + 1)
 else
 gd (0 ≤ i9_195) <|
 gd (i9_195 < (([32, 39, 40, 41, 43, 44, 45, 46, 47, 58, 61, 63].length : Nat) : Int)) <|
 gd (okI .i64 (i9_195 + 1)) <|
 (rText_l10 n a0 a1 i5_2 k_l1 fu_l10) ((a1.getD i5_2.toNat 0) == ([32, 39, 40, 41, 43, 44, 45, 46, 47, 58, 61, 63].getD i9_195.toNat 0)) (i9_195 + 1)
 else
 bif (!p7_141) then
 some false
 else
 rText_j1 n a0 a1 i5_2 k_l1
def rText_l11 (n : Nat) (a0 : UInt8) (a1 : List UInt8) (i5_2 : Int) (k_l1 : Int → Option (Bool)) : Nat → Bool → Int → Option (Bool)
 | 0, _, _ => none
 | fu_l11 + 1, p7_142, i9_196 =>
 bif (decide (i9_196 < (([32, 39, 40, 41, 43, 44, 45, 46, 47, 58, 61, 63].length : Nat) : Int))) then
 bif p7_142 then
 gd (okI .i64 (i9_196 + 1)) <|
 (rText_l11 n a0 a1 i5_2 k_l1 fu_l11) true (i9_196 + 1)
 else
 gd (0 ≤ i9_196) <|
 gd (i9_196 < (([32, 39, 40, 41, 43, 44, 45, 46, 47, 58, 61, 63].length : Nat) : Int)) <|
 gd (okI .i64 (i9_196 + 1)) <|
 (rText_l11 n a0 a1 i5_2 k_l1 fu_l11) ((a1.getD i5_2.toNat 0) == ([32, 39, 40, 41, 43, 44, 45, 46, 47, 58, 61, 63].getD i9_196.toNat 0)) (i9_196 + 1)
 else
 bif (!p7_142) then
 some false
 else
 rText_j1 n a0 a1 i5_2 k_l1
def rText_l12 (n : Nat) (a0 : UInt8) (a1 : List UInt8) (i5_2 : Int) (k_l1 : Int → Option (Bool)) : Nat → Bool → Int → Option (Bool)
 | 0, _, _ => none
 | fu_l12 + 1, p7_143, i9_197 =>
 bif (decide (i9_197 < (([32, 39, 40, 41, 43, 44, 45, 46, 47, 58, 61, 63].length : Nat) : Int))) then
 bif p7_143 then
 gd (okI .i64 (i9_197 + 1)) <|
 (rText_l12 n a0 a1 i5_2 k_l1 fu_l12) true (i9_197 + 1)
 else
 gd (0 ≤ i9_197) <|
 gd (i9_197 < (([32, 39, 40, 41, 43, 44, 45, 46, 47, 58, 61, 63].length : Nat) : Int)) <|
 gd (okI .i64 (i9_197 + 1)) <|
 (rText_l12 n a0 a1 i5_2 k_l1 fu_l12) ((a1.getD i5_2.toNat 0) == ([32, 39, 40, 41, 43, 44, 45, 46, 47, 58, 61, 63].getD i9_197.toNat 0)) (i9_197 + 1)
 else
 bif (!p7_143) then
 some false
 else
 rText_j1 n a0 a1 i5_2 k_l1
def rText_l1 (n : Nat) (a0 : UInt8) (a1 : List UInt8) : Nat → Int → Option (Bool)
 | 0, _ => none
 | fu_l1 + 1, i5_2 =>
 bif (decide (i5_2 < ((a1.length : Nat) : Int))) then
 gd (0 ≤ i5_2) <|
 gd (i5_2 < ((a1.length : Nat) : Int)) <|
 bif (decide ((128 : UInt8) ≤ (a1.getD i5_2.toNat 0))) then
 some false
 else
 bif (a0 == 19) then
 bif (decide ((97 : UInt8) ≤ (a1.getD i5_2.toNat 0))) then
 bif (decide ((a1.getD i5_2.toNat 0) ≤ (122 : UInt8))) then
 rText_l2 n a0 a1 i5_2 (rText_l1 n a0 a1 fu_l1) n 0
 else
 bif (decide ((65 : UInt8) ≤ (a1.getD i5_2.toNat 0))) then
 bif (decide ((a1.getD i5_2.toNat 0) ≤ (90 : UInt8))) then
 rText_l3 n a0 a1 i5_2 (rText_l1 n a0 a1 fu_l1) n 0
 else
 bif (decide ((48 : UInt8) ≤ (a1.getD i5_2.toNat 0))) then
 rText_l4 n a0 a1 i5_2 (rText_l1 n a0 a1 fu_l1) n (decide ((a1.getD i5_2.toNat 0) ≤ (57 : UInt8))) 0
 else
 rText_l5 n a0 a1 i5_2 (rText_l1 n a0 a1 fu_l1) n false 0
 else
 bif (decide ((48 : UInt8) ≤ (a1.getD i5_2.toNat 0))) then
 rText_l6 n a0 a1 i5_2 (rText_l1 n a0 a1 fu_l1) n (decide ((a1.getD i5_2.toNat 0) ≤ (57 : UInt8))) 0
 else
 rText_l7 n a0 a1 i5_2 (rText_l1 n a0 a1 fu_l1) n false 0
 else
 bif (decide ((65 : UInt8) ≤ (a1.getD i5_2.toNat 0))) then
 bif (decide ((a1.getD i5_2.toNat 0) ≤ (90 : UInt8))) then
 rText_l8 n a0 a1 i5_2 (rText_l1 n a0 a1 fu_l1) n 0
 else
 bif (decide ((48 : UInt8) ≤ (a1.getD i5_2.toNat 0))) then
 rText_l9 n a0 a1 i5_2 (rText_l1 n a0 a1 fu_l1) n (decide ((a1.getD i5_2.toNat 0) ≤ (57 : UInt8))) 0
 else
 rText_l10 n a0 a1 i5_2 (rText_l1 n a0 a1 fu_l1) n false 0
 else
 bif (decide ((48 : UInt8) ≤ (a1.getD i5_2.toNat 0))) then
 rText_l11 n a0 a1 i5_2 (rText_l1 n a0 a1 fu_l1) n (decide ((a1.getD i5_2.toNat 0) ≤ (57 : UInt8))) 0
 else
 rText_l12 n a0 a1 i5_2 (rText_l1 n a0 a1 fu_l1) n false 0
 else
 rText_j1 n a0 a1 i5_2 (rText_l1 n a0 a1 fu_l1)
 else
 some true
def rText (n : Nat) (a0 : UInt8) (a1 : List UInt8) : Option (Bool) :=
 bif (a0 == 12) then
  (rPoints n a1).bind fun r13 =>
  some r13
 else
  rText_l1 n a0 a1 n 0
def rOid (n : Nat) (a0 : List UInt32) : Option (Bool) :=
 bif (decide (((a0.length : Nat) : Int) < (2 : Int))) then
 some false
 else
 bif (decide ((16 : Int) < ((a0.length : Nat) : Int))) then
 some false
 else
 gd (0 ≤ (0 : Int)) <|
 gd ((0 : Int) < ((a0.length : Nat) : Int)) <|
 bif (decide ((2 : UInt32) < (a0.getD 0 0))) then
 some false
 else
 gd (0 ≤ (0 : Int)) <|
 gd ((0 : Int) < ((a0.length : Nat) : Int)) <|
 bif (decide ((a0.getD 0 0) < (2 : UInt32))) then
 gd (0 ≤ (1 : Int)) <|
 gd ((1 : Int) < ((a0.length : Nat) : Int)) <|
 some (decide ((a0.getD 1 0) < (40 : UInt32)))
 else
 gd (0 ≤ (1 : Int)) <|
 gd ((1 : Int) < ((a0.length : Nat) : Int)) <|
 some (decide ((a0.getD 1 0) ≤ (4294967215 : UInt32)))
def rgroup : Nat → UInt32 → Option (List UInt8)
 | 0, _ => none
 | n + 1, a0 =>
  bif (decide (a0 < (128 : UInt32))) then
   some [a0.toUInt8]
  else
   gd ((128 : UInt32) ≠ 0) <|
   (rgroup n (a0 / (128 : UInt32))).bind fun r11 =>
   gd (okI .i64 (((r11.length : Nat) : Int) - 1)) <|
   gd (okI .i64 (((r11.length : Nat) : Int) - 1)) <|
   gd (0 ≤ (((r11.length : Nat) : Int) - 1)) <|
   gd ((((r11.length : Nat) : Int) - 1) < ((r11.length : Nat) : Int)) <|
   gd (0 ≤ (((r11.length : Nat) : Int) - 1)) <|
   gd ((((r11.length : Nat) : Int) - 1) < ((r11.length : Nat) : Int)) <|
   gd ((128 : UInt32) ≠ 0) <|
   gd (rmB (r11.length + 1) 1) <|
   some ((r11.set ((((r11.length : Nat) : Int) - 1).toNat) ((r11.getD ((((r11.length : Nat) : Int) - 1).toNat) 0) + (128 : UInt8))) ++ [(a0 % (128 : UInt32)).toUInt8])
def rOidBody_l1 (n : Nat) (a0 : List UInt32) : Nat → List UInt8 → Int → Option (List UInt8)
 | 0, _, _ => none
 | fu_l1 + 1, l3_2, i4_2 =>
  bif (decide (i4_2 < ((a0.length : Nat) : Int))) then
   gd (0 ≤ i4_2) <|
   gd (i4_2 < ((a0.length : Nat) : Int)) <|
   (rgroup n (a0.getD i4_2.toNat 0)).bind fun r25_3 =>
   gd (rmB (l3_2.length + r25_3.length) 1) <|
   gd (okI .i64 (i4_2 + 1)) <|
   (rOidBody_l1 n a0 fu_l1) (l3_2 ++ r25_3) (i4_2 + 1)
  else
   some l3_2
def rOidBody (n : Nat) (a0 : List UInt32) : Option (List UInt8) :=
 gd (0 ≤ (0 : Int)) <|
 gd ((0 : Int) < ((a0.length : Nat) : Int)) <|
 gd (0 ≤ (1 : Int)) <|
 gd ((1 : Int) < ((a0.length : Nat) : Int)) <|
 (rgroup n (((40 : UInt32) * (a0.getD 0 0)) + (a0.getD 1 0))).bind fun r13 =>
 rOidBody_l1 n a0 n r13 2
def pident_R (r : Bool) : S := ⟨[(2, kB r)], [], []⟩
def pident_ct (n : Nat) (r : Bool) : Ct := ctc (rW 63).rd fun _ l0 => ct0 fun H => ([pident n l0 = some r], shA H.length (kB r), shH H.length [])
theorem pident_ok (n : Nat) (r : Bool) : FnOk Tryz.prog Tr 93 (pident_ct n r) := by
 refine fnok Tryz.func93 ?_
 refine HO_c (rW 63) fun l0 _ => HO_0 tabO_oa (pident_R r) [.tmp 2] [] 31 Tryz.func93 fun w hG h => ?_
 unfold pident at h
 have hT := tabO_oa
 refine Vrs hT [0] ⟨[(0, kH 0)], [], [ow 63 l0]⟩ ?_
 refine W_seq ?_
 refine W_seq ?_
 rcases Bool.eq_false_or_eq_true (decide (((l0.length : Nat) : Int) < (2 : Int))) with g1 | g1
 ·replace h := bif_t h g1
  refine Vg hT fN [(3, true)] [] [0] ⟨[(0, kH 0), (16, kB true)], [], [ow 63 l0]⟩ (aP g1 aN) ?_
  refine Vi (true) (fun _ => ?_) (fun hb => by cases hb)
  refine Vrs hT [] ⟨[(2, kB false)], [], []⟩ ?_
  refine Vc [] [] (pident_R false) (W_ret ?_)
  exact ⟨.inl rfl, by cases h; rfl⟩
 ·replace h := bif_f h g1
  rcases Bool.eq_false_or_eq_true (decide ((16 : Int) < ((l0.length : Nat) : Int))) with g2 | g2
  ·replace h := bif_t h g2
   refine Vg hT fN [(3, false), (8, true)] [] [0] ⟨[(0, kH 0), (16, kB true)], [], [ow 63 l0]⟩ (aP g1 (aP g2 aN)) ?_
   refine Vi (true) (fun _ => ?_) (fun hb => by cases hb)
   refine Vrs hT [] ⟨[(2, kB false)], [], []⟩ ?_
   refine Vc [] [] (pident_R false) (W_ret ?_)
   exact ⟨.inl rfl, by cases h; rfl⟩
  ·replace h := bif_f h g2
   obtain ⟨g3, g4, h⟩ := gd2 h
   refine Vg hT fN [(3, false), (8, false)] [] [0] ⟨[(0, kH 0), (16, kB (decide ((2 : UInt32) < (l0.getD 0 0))))], [], [ow 63 l0]⟩ (aP g1 (aP g2 (aP g3 (aP g4 aN)))) ?_
   refine Vi ((decide ((2 : UInt32) < (l0.getD 0 0)))) (fun g12 => ?_) (fun g12 => ?_)
   ·replace h := bif_t h g12
    refine Vrs hT [] ⟨[(2, kB false)], [], []⟩ ?_
    refine Vc [] [] (pident_R false) (W_ret ?_)
    exact ⟨.inl rfl, by cases h; rfl⟩
   ·replace h := bif_f h g12
    refine W_skip ?_
    refine W_seq ?_
    obtain ⟨g5, g6, h⟩ := gd2 h
    refine Vgs hT fN [] [] [0] ⟨[(0, kH 0), (20, kB (decide ((l0.getD 0 0) < (2 : UInt32))))], [], [ow 63 l0]⟩ (aP g5 (aP g6 aN)) ?_
    refine Vi ((decide ((l0.getD 0 0) < (2 : UInt32)))) (fun g11 => ?_) (fun g11 => ?_)
    ·replace h := bif_t h g11
     obtain ⟨g7, g8, h⟩ := gd2 h
     refine Vgs hT fN [] [] [] ⟨[(2, kB (decide ((l0.getD 1 0) < (40 : UInt32))))], [], []⟩ (aP g7 (aP g8 aN)) ?_
     refine Vc [] [] (pident_R (decide ((l0.getD 1 0) < (40 : UInt32)))) (W_ret ?_)
     exact ⟨.inl rfl, by cases h; rfl⟩
    ·replace h := bif_f h g11
     refine W_skip ?_
     obtain ⟨g9, g10, h⟩ := gd2 h
     refine Vgs hT fN [] [] [] ⟨[(2, kB (decide ((((l0.getD 1 0).toUInt64) + (80 : UInt64)) < (4294967296 : UInt64))))], [], []⟩ (aP g9 (aP g10 aN)) ?_
     refine Vc [] [] (pident_R (decide ((((l0.getD 1 0).toUInt64) + (80 : UInt64)) < (4294967296 : UInt64)))) (W_ret ?_)
     exact ⟨.inl rfl, by cases h; rfl⟩
def pOid_l1_E (a0 : List UInt32) (l4_1 : List UInt8) (i23_1 : Int) : S := ⟨[(4, kH 0), (21, kH 1), (22, kI (((a0.length - 2) : Nat) : Int)), (23, kI i23_1)], [], [nb 5 l4_1, ⟨(.ro false), 63, 1, (a0.length - 2), .w ((a0.drop 2).take (a0.length - 2))⟩]⟩
abbrev pOid_l1_P (n : Nat) (a0 : List UInt32) (r : List UInt8 × Option Int) (fu : Nat) : S → Prop := fun s => ∃ (l4_1 : List UInt8), ∃ (i23_1 : Int), s = pOid_l1_E a0 l4_1 i23_1 ∧ pOid_l1 n a0 fu l4_1 i23_1 = some r
def pOid_R (r : List UInt8 × Option Int) : S := ⟨[(2, kH 0), (3, kE 37 r.2)], [], [nb 5 r.1]⟩
def pOid_ct (n : Nat) (r : List UInt8 × Option Int) : Ct := ctc (rW 63).rd fun _ l0 => ct0 fun H => ([pOid n l0 = some r], shA H.length (.t [.c (.wh 0), .c (.s (.er 37 .i64 r.2))]), shH H.length [nb 5 r.1])
theorem pOid_ok (n : Nat) (r : List UInt8 × Option Int) : FnOk Tryz.prog Tr 66 (pOid_ct n r) := by
 refine fnok Tryz.func66 ?_
 refine HO_c (rW 63) fun l0 _ => HO_0 tabO_oa (pOid_R r) [.tmp 2, .tmp 3] [0] 33 Tryz.func66 fun w hG h => ?_
 unfold pOid at h
 have hT := tabO_oa
 refine Vrs hT [0] ⟨[(0, kH 0)], [], [ow 63 l0]⟩ ?_
 refine W_seq ?_
 obtain ⟨r8, g1, h⟩ := bind_some' h
 refine Vgs hT (fT 1 (pident_ok n r8) fN) [] [] [0] ⟨[(0, kH 0), (9, kB (!r8))], [], [ow 63 l0]⟩ (aP g1 aN) ?_
 refine Vi ((!r8)) (fun g13 => ?_) (fun g13 => ?_)
 ·replace h := bif_t h g13
  refine Vrs hT [] ⟨[(2, .c (.nils)), (3, kE 37 (some 1))], [], []⟩ ?_
  refine Vc [.nil 2 5 1 (.b [])] [0] (pOid_R ([], (some 1))) (W_ret ?_)
  exact ⟨.inl rfl, by cases h; rfl⟩
 ·replace h := bif_f h g13
  refine W_skip ?_
  obtain ⟨g2, g3, g4, g5, h⟩ := gd4 h
  refine Vds hT (fT 8 group_h fN) 7 [] [(0, false), (14, false), (17, false)] [] [0, 1] ⟨[(0, kH 0), (4, kH 1)], [], [ow 63 l0, nb 5 (grp (((40 : UInt32) * (l0.getD 0 0)) + (l0.getD 1 0)))]⟩ (aP g2 (aP g3 (aP g4 (aP g5 aN)))) ?_
  refine W_seq ?_
  obtain ⟨g6, g7, h⟩ := gd2 h
  refine Vgs hT fN [] [] [1, 0] ⟨[(4, kH 0), (21, .c (.sl 1 2 (l0.length - 2))), (22, kI (((l0.length - 2) : Nat) : Int)), (23, kI 0)], [], [nb 5 (grp (((40 : UInt32) * (l0.getD 0 0)) + (l0.getD 1 0))), ow 63 l0]⟩ (aP g6 (aP g7 aN)) ?_
  refine W_block ?_
  refine Vc [.vw 21 false] [0, 2] (pOid_l1_E l0 (grp (((40 : UInt32) * (l0.getD 0 0)) + (l0.getD 1 0))) 0) (W_lp ((pOid_l1_P n l0 r)) n ⟨_, _, rfl, h⟩ ?_)
  rintro fu_l1 _ ⟨l4_1, i23_1, rfl, h⟩
  cases fu_l1 with
  | zero => cases h
  | succ fu_l1 =>
   refine ⟨fu_l1, rfl, ?_⟩
   rw [pOid_l1] at h
   refine Vrs hT [0, 1] ⟨[(4, kH 0), (21, kH 1), (22, kI (((l0.length - 2) : Nat) : Int)), (23, kI i23_1), (24, kB (decide (i23_1 < (((l0.length - 2) : Nat) : Int))))], [], [nb 5 l4_1, ⟨(.ro false), 63, 1, (l0.length - 2), .w ((l0.drop 2).take (l0.length - 2))⟩]⟩ ?_
   refine W_seq ?_
   refine Vi ((decide (i23_1 < (((l0.length - 2) : Nat) : Int)))) (fun g12 => ?_) (fun g12 => ?_)
   ·replace h := bif_t h g12
    refine W_skip ?_
    refine W_seq ?_
    refine W_block ?_
    obtain ⟨g8, g9, h⟩ := gd2 h
    refine Vgs hT fN [] [] [0, 1] ⟨[(4, kH 0), (6, kX (((l0.drop 2).take (l0.length - 2)).getD i23_1.toNat 0)), (21, kH 1), (22, kI (((l0.length - 2) : Nat) : Int)), (23, kI i23_1)], [], [nb 5 l4_1, ⟨(.ro false), 63, 1, (l0.length - 2), .w ((l0.drop 2).take (l0.length - 2))⟩]⟩ (aP g8 (aP g9 aN)) ?_
    obtain ⟨g10, h⟩ := gd_some h
    refine Vg hT (fT 2 group_h fN) [] [] [3, 1] ⟨[(4, kH 0), (21, kH 1), (22, kI (((l0.length - 2) : Nat) : Int)), (23, kI i23_1)], [], [nb 5 (l4_1 ++ (grp (((l0.drop 2).take (l0.length - 2)).getD i23_1.toNat 0))), ⟨(.ro false), 63, 1, (l0.length - 2), .w ((l0.drop 2).take (l0.length - 2))⟩]⟩ (aP g10 aN) ?_
    obtain ⟨g11, h⟩ := gd_some h
    refine Vg hT fN [] [] [0, 1] (pOid_l1_E l0 (l4_1 ++ (grp (((l0.drop 2).take (l0.length - 2)).getD i23_1.toNat 0))) (i23_1 + 1)) (aP g11 aN) ?_
    exact ⟨_, _, rfl, h⟩
   ·replace h := bif_f h g12
    refine Vc [] [0] ⟨[(4, kH 0)], [], [nb 5 l4_1]⟩ (W_exit ?_)
    refine Vrs hT [0] ⟨[(2, kH 0), (3, .c (.s (.v .nilIface)))], [], [nb 5 l4_1]⟩ ?_
    refine Vc [.er 3 37 .i64] [0] (pOid_R (l4_1, none)) (W_ret ?_)
    exact ⟨.inl rfl, by cases h; rfl⟩
def pText_j1_E (p5_2 : Bool) : S := ⟨[(5, kB p5_2)], [], []⟩
abbrev pText_j1_P (n : Nat) (r : Option Int) : S → Prop := fun s => ∃ (p5_2 : Bool), s = pText_j1_E p5_2 ∧ pText_j1 n p5_2 = some r
def pText_R (r : Option Int) : S := ⟨[(4, kE 37 r)], [], []⟩
def pText_ct (n : Nat) (r : Option Int) : Ct := ctc rU8.rd fun _ l0 => ctc (rB 5).rd fun _ l1 => ct0 fun H => ([pText n l0 l1 = some r], shA H.length (kE 37 r), shH H.length [])
theorem pText_ok (n : Nat) (r : Option Int) : FnOk Tryz.prog Tr 67 (pText_ct n r) := by
 refine fnok Tryz.func67 ?_
 refine HO_c rU8 fun l0 _ => HO_c (rB 5) fun l1 _ => HO_0 tabO_oa (pText_R r) [.tmp 4] [] 26 Tryz.func67 fun w hG h => ?_
 unfold pText at h
 have hT := tabO_oa
 refine Vrs hT [0] ⟨[(0, kU l0), (1, kH 0)], [], [ob 5 l1]⟩ ?_
 refine Vrs hT [0] ⟨[(0, kU l0), (1, kH 0)], [], [ob 5 l1]⟩ ?_
 refine W_join (pText_j1_P n r) ?_ ?_
 ·rintro _ ⟨p5_2, rfl, h⟩
  unfold pText_j1 at h
  refine W_seq ?_
  refine Vrs hT [] ⟨[(24, kB (!p5_2))], [], []⟩ ?_
  refine Vi ((!p5_2)) (fun g1 => ?_) (fun g1 => ?_)
  ·replace h := bif_t h g1
   refine Vrs hT [] ⟨[(4, kE 37 (some 2))], [], []⟩ ?_
   refine Vc [] [] (pText_R (some 2)) (W_ret ?_)
   exact ⟨.inl rfl, by cases h; rfl⟩
  ·replace h := bif_f h g1
   refine W_skip ?_
   refine Vrs hT [] ⟨[(4, .c (.s (.v .nilIface)))], [], []⟩ ?_
   refine Vc [.er 4 37 .i64] [] (pText_R none) (W_ret ?_)
   exact ⟨.inl rfl, by cases h; rfl⟩
 ·refine W_seq ?_
  refine Vr hT [0] ⟨[(1, kH 0), (6, kU l0)], [], [ob 5 l1]⟩ ?_
  refine W_block ?_
  refine Vrs hT [0] ⟨[(1, kH 0), (6, kU l0), (8, kB (l0 == 12))], [], [ob 5 l1]⟩ ?_
  refine Vi ((l0 == 12)) (fun g5 => ?_) (fun g5 => ?_)
  ·replace h := bif_t h g5
   obtain ⟨g2, h⟩ := gd_some h
   refine Vg hT (fT 2 pts_h fN) [] [] [] (pText_j1_E (ptsF l1)) (aP g2 aN) ?_
   exact ⟨_, rfl, h⟩
  ·replace h := bif_f h g5
   refine Vrs hT [0] ⟨[(1, kH 0), (6, kU l0), (13, kB (l0 == 19))], [], [ob 5 l1]⟩ ?_
   refine Vi ((l0 == 19)) (fun g4 => ?_) (fun g4 => ?_)
   ·replace h := bif_t h g4
    refine Vg hT (fT 1 cf_h fN) [] [] [] (pText_j1_E (!((l1).any prtN))) aN ?_
    exact ⟨_, rfl, h⟩
   ·replace h := bif_f h g4
    refine Vrs hT [0] ⟨[(1, kH 0), (18, kB (l0 == 22))], [], [ob 5 l1]⟩ ?_
    refine Vi ((l0 == 22)) (fun g3 => ?_) (fun g3 => ?_)
    ·replace h := bif_t h g3
     refine Vg hT (fT 1 cf_h fN) [] [] [] (pText_j1_E (!((l1).any hiB))) aN ?_
     exact ⟨_, rfl, h⟩
    ·replace h := bif_f h g3
     refine Vrs hT [] ⟨[(4, kE 37 (some 1))], [], []⟩ ?_
     refine Vc [] [] (pText_R (some 1)) (W_ret ?_)
     exact ⟨.inl rfl, by cases h; rfl⟩
def rlater_R (r : Bool) : S := ⟨[(2, kB r)], [], []⟩
def rlater_ct (n : Nat) (r : Bool) : Ct := ctc rU8.rd fun _ l0 => ct0 fun H => ([rlater n l0 = some r], shA H.length (kB r), shH H.length [])
theorem rlater_ok (n : Nat) (r : Bool) : FnOk Tryz.prog Tr 110 (rlater_ct n r) := by
 refine fnok Tryz.func110 ?_
 refine HO_c rU8 fun l0 _ => HO_0 tabO_oa (rlater_R r) [.tmp 2] [] 9 Tryz.func110 fun w hG h => ?_
 unfold rlater at h
 have hT := tabO_oa
 refine Vrs hT [] ⟨[(0, kU l0)], [], []⟩ ?_
 refine W_seq ?_
 rcases Bool.eq_false_or_eq_true (decide ((128 : UInt8) ≤ l0)) with g1 | g1
 ·replace h := bif_t h g1
  refine Vg hT fN [(2, true)] [] [] ⟨[(2, kB (decide (l0 < (192 : UInt8))))], [], []⟩ (aP g1 aN) ?_
  refine Vc [] [] (rlater_R (decide (l0 < (192 : UInt8)))) (W_ret ?_)
  exact ⟨.inl rfl, by cases h; rfl⟩
 ·replace h := bif_f h g1
  refine Vg hT fN [(2, false)] [] [] ⟨[(2, kB false)], [], []⟩ (aP g1 aN) ?_
  refine Vc [] [] (rlater_R false) (W_ret ?_)
  exact ⟨.inl rfl, by cases h; rfl⟩
def rPoints_l2_E (a0 : List UInt8) (i3_2 : Int) (i5_8 : Int) (i8_16 : Int) : S := ⟨[(0, kH 0), (3, kI i3_2), (5, kI i5_8), (8, kI i8_16)], [], [ob 5 a0]⟩
abbrev rPoints_l2_P (n : Nat) (a0 : List UInt8) (i3_2 : Int) (i5_8 : Int) (k_l1 : Int → Option (Bool)) (r : Bool) (fu : Nat) : S → Prop := fun s => ∃ (i8_16 : Int), s = rPoints_l2_E a0 i3_2 i5_8 i8_16 ∧ rPoints_l2 n a0 i3_2 i5_8 k_l1 fu i8_16 = some r
def rPoints_l3_E (a0 : List UInt8) (i3_2 : Int) (i5_8 : Int) (i8_17 : Int) : S := ⟨[(0, kH 0), (3, kI i3_2), (5, kI i5_8), (8, kI i8_17)], [], [ob 5 a0]⟩
abbrev rPoints_l3_P (n : Nat) (a0 : List UInt8) (i3_2 : Int) (i5_8 : Int) (k_l1 : Int → Option (Bool)) (r : Bool) (fu : Nat) : S → Prop := fun s => ∃ (i8_17 : Int), s = rPoints_l3_E a0 i3_2 i5_8 i8_17 ∧ rPoints_l3 n a0 i3_2 i5_8 k_l1 fu i8_17 = some r
def rPoints_j5_E (a0 : List UInt8) (i3_2 : Int) (i5_8 : Int) (i6_17 : Int) (i7_17 : Int) : S := ⟨[(0, kH 0), (3, kI i3_2), (5, kI i5_8), (6, kI i6_17), (7, kI i7_17)], [], [ob 5 a0]⟩
abbrev rPoints_j5_P (n : Nat) (a0 : List UInt8) (i3_2 : Int) (i5_8 : Int) (i6_17 : Int) (k_l1 : Int → Option (Bool)) (r : Bool) : S → Prop := fun s => ∃ (i7_17 : Int), s = rPoints_j5_E a0 i3_2 i5_8 i6_17 i7_17 ∧ rPoints_j5 n a0 i3_2 i5_8 i6_17 k_l1 i7_17 = some r
def rPoints_j4_E (a0 : List UInt8) (i3_2 : Int) (i5_8 : Int) (i7_16 : Int) (i6_17 : Int) : S := ⟨[(0, kH 0), (3, kI i3_2), (4, kI (((a0.getD i3_2.toNat 0).toNat : Nat) : Int)), (5, kI i5_8), (6, kI i6_17), (7, kI i7_16)], [], [ob 5 a0]⟩
abbrev rPoints_j4_P (n : Nat) (a0 : List UInt8) (i3_2 : Int) (i5_8 : Int) (i7_16 : Int) (k_l1 : Int → Option (Bool)) (r : Bool) : S → Prop := fun s => ∃ (i6_17 : Int), s = rPoints_j4_E a0 i3_2 i5_8 i7_16 i6_17 ∧ rPoints_j4 n a0 i3_2 i5_8 i7_16 k_l1 i6_17 = some r
def rPoints_j3_E (a0 : List UInt8) (i3_2 : Int) (i5_8 : Int) (i6_16 : Int) (i7_16 : Int) : S := ⟨[(0, kH 0), (3, kI i3_2), (4, kI (((a0.getD i3_2.toNat 0).toNat : Nat) : Int)), (5, kI i5_8), (6, kI i6_16), (7, kI i7_16)], [], [ob 5 a0]⟩
abbrev rPoints_j3_P (n : Nat) (a0 : List UInt8) (i3_2 : Int) (i5_8 : Int) (i6_16 : Int) (k_l1 : Int → Option (Bool)) (r : Bool) : S → Prop := fun s => ∃ (i7_16 : Int), s = rPoints_j3_E a0 i3_2 i5_8 i6_16 i7_16 ∧ rPoints_j3 n a0 i3_2 i5_8 i6_16 k_l1 i7_16 = some r
def rPoints_j2_E (a0 : List UInt8) (i3_2 : Int) (i5_8 : Int) (i6_16 : Int) : S := ⟨[(0, kH 0), (3, kI i3_2), (4, kI (((a0.getD i3_2.toNat 0).toNat : Nat) : Int)), (5, kI i5_8), (6, kI i6_16), (7, kI 191)], [], [ob 5 a0]⟩
abbrev rPoints_j2_P (n : Nat) (a0 : List UInt8) (i3_2 : Int) (i5_8 : Int) (k_l1 : Int → Option (Bool)) (r : Bool) : S → Prop := fun s => ∃ (i6_16 : Int), s = rPoints_j2_E a0 i3_2 i5_8 i6_16 ∧ rPoints_j2 n a0 i3_2 i5_8 k_l1 i6_16 = some r
def rPoints_j1_E (a0 : List UInt8) (i3_2 : Int) (i5_8 : Int) : S := ⟨[(0, kH 0), (3, kI i3_2), (4, kI (((a0.getD i3_2.toNat 0).toNat : Nat) : Int)), (5, kI i5_8), (6, kI 128), (7, kI 191)], [], [ob 5 a0]⟩
abbrev rPoints_j1_P (n : Nat) (a0 : List UInt8) (i3_2 : Int) (k_l1 : Int → Option (Bool)) (r : Bool) : S → Prop := fun s => ∃ (i5_8 : Int), s = rPoints_j1_E a0 i3_2 i5_8 ∧ rPoints_j1 n a0 i3_2 k_l1 i5_8 = some r
def rPoints_l1_E (a0 : List UInt8) (i3_2 : Int) : S := ⟨[(0, kH 0), (3, kI i3_2)], [], [ob 5 a0]⟩
abbrev rPoints_l1_P (n : Nat) (a0 : List UInt8) (r : Bool) (fu : Nat) : S → Prop := fun s => ∃ (i3_2 : Int), s = rPoints_l1_E a0 i3_2 ∧ rPoints_l1 n a0 fu i3_2 = some r
def rPoints_R (r : Bool) : S := ⟨[(2, kB r)], [], []⟩
def rPoints_ct (n : Nat) (r : Bool) : Ct := ctc (rB 5).rd fun _ l0 => ct0 fun H => ([rPoints n l0 = some r], shA H.length (kB r), shH H.length [])
theorem rPoints_ok (n : Nat) (r : Bool) : FnOk Tryz.prog Tr 102 (rPoints_ct n r) := by
 refine fnok Tryz.func102 ?_
 refine HO_c (rB 5) fun l0 _ => HO_0 tabO_oa (rPoints_R r) [.tmp 2] [] 97 Tryz.func102 fun w hG h => ?_
 unfold rPoints at h
 have hT := tabO_oa
 refine Vrs hT [0] ⟨[(0, kH 0)], [], [ob 5 l0]⟩ ?_
 refine Vrs hT [0] ⟨[(0, kH 0), (3, kI 0)], [], [ob 5 l0]⟩ ?_
 refine W_seq ?_
 refine W_block ?_
 refine Vc [] [0] (rPoints_l1_E l0 0) (W_lp ((rPoints_l1_P n l0 r)) n ⟨_, rfl, h⟩ ?_)
 rintro fu_l1 _ ⟨i3_2, rfl, h⟩
 cases fu_l1 with
 | zero => cases h
 | succ fu_l1 =>
  refine ⟨fu_l1, rfl, ?_⟩
  rw [rPoints_l1] at h
  refine W_seq ?_
  refine Vrs hT [0] ⟨[(0, kH 0), (3, kI i3_2), (13, kB (decide (i3_2 < ((l0.length : Nat) : Int))))], [], [ob 5 l0]⟩ ?_
  refine Vi ((decide (i3_2 < ((l0.length : Nat) : Int)))) (fun g51 => ?_) (fun g51 => ?_)
  ·replace h := bif_t h g51
   refine W_skip ?_
   refine W_block ?_
   obtain ⟨g1, g2, h⟩ := gd2 h
   refine Vgs hT fN [] [] [0] ⟨[(0, kH 0), (3, kI i3_2), (4, kI (((l0.getD i3_2.toNat 0).toNat : Nat) : Int))], [], [ob 5 l0]⟩ (aP g1 (aP g2 aN)) ?_
   refine Vrs hT [0] ⟨[(0, kH 0), (3, kI i3_2), (4, kI (((l0.getD i3_2.toNat 0).toNat : Nat) : Int))], [], [ob 5 l0]⟩ ?_
   refine Vrs hT [0] ⟨[(0, kH 0), (3, kI i3_2), (4, kI (((l0.getD i3_2.toNat 0).toNat : Nat) : Int)), (6, kI 128)], [], [ob 5 l0]⟩ ?_
   refine Vrs hT [0] ⟨[(0, kH 0), (3, kI i3_2), (4, kI (((l0.getD i3_2.toNat 0).toNat : Nat) : Int)), (6, kI 128), (7, kI 191)], [], [ob 5 l0]⟩ ?_
   refine W_join (rPoints_j1_P n l0 i3_2 (rPoints_l1 n l0 fu_l1) r) ?_ ?_
   ·rintro _ ⟨i5_8, rfl, h⟩
    unfold rPoints_j1 at h
    refine W_join (rPoints_j2_P n l0 i3_2 i5_8 (rPoints_l1 n l0 fu_l1) r) ?_ ?_
    ·rintro _ ⟨i6_16, rfl, h⟩
     unfold rPoints_j2 at h
     refine W_join (rPoints_j3_P n l0 i3_2 i5_8 i6_16 (rPoints_l1 n l0 fu_l1) r) ?_ ?_
     ·rintro _ ⟨i7_16, rfl, h⟩
      unfold rPoints_j3 at h
      refine W_join (rPoints_j4_P n l0 i3_2 i5_8 i7_16 (rPoints_l1 n l0 fu_l1) r) ?_ ?_
      ·rintro _ ⟨i6_17, rfl, h⟩
       unfold rPoints_j4 at h
       refine W_join (rPoints_j5_P n l0 i3_2 i5_8 i6_17 (rPoints_l1 n l0 fu_l1) r) ?_ ?_
       ·rintro _ ⟨i7_17, rfl, h⟩
        unfold rPoints_j5 at h
        refine W_seq ?_
        obtain ⟨g3, h⟩ := gd_some h
        refine Vgs hT fN [] [] [0] ⟨[(0, kH 0), (3, kI i3_2), (5, kI i5_8), (6, kI i6_17), (7, kI i7_17), (56, kB (decide (((l0.length : Nat) : Int) ≤ (i3_2 + i5_8))))], [], [ob 5 l0]⟩ (aP g3 aN) ?_
        refine Vi ((decide (((l0.length : Nat) : Int) ≤ (i3_2 + i5_8)))) (fun g31 => ?_) (fun g31 => ?_)
        ·replace h := bif_t h g31
         refine Vrs hT [] ⟨[(2, kB false)], [], []⟩ ?_
         refine Vc [] [] (rPoints_R false) (W_ret ?_)
         exact ⟨.inl rfl, by cases h; rfl⟩
        ·replace h := bif_f h g31
         refine Vc [] [0] ⟨[(0, kH 0), (3, kI i3_2), (5, kI i5_8), (6, kI i6_17), (7, kI i7_17)], [], [ob 5 l0]⟩ (W_skip ?_)
         refine W_seq ?_
         refine W_seq ?_
         rcases Bool.eq_false_or_eq_true (decide ((0 : Int) < i5_8)) with g4 | g4
         ·replace h := bif_t h g4
          obtain ⟨g5, g6, g7, h⟩ := gd3 h
          rcases Bool.eq_false_or_eq_true (decide ((((l0.getD ((i3_2 + 1).toNat) 0).toNat : Nat) : Int) < i6_17)) with g8 | g8
          ·replace h := bif_t h g8
           refine Vg hT fN [(2, true), (11, true)] [] [0] ⟨[(0, kH 0), (3, kI i3_2), (5, kI i5_8), (78, kB true)], [], [ob 5 l0]⟩ (aP g4 (aP g5 (aP g6 (aP g7 (aP g8 aN))))) ?_
           refine Vi (true) (fun _ => ?_) (fun hb => by cases hb)
           refine Vrs hT [] ⟨[(2, kB false)], [], []⟩ ?_
           refine Vc [] [] (rPoints_R false) (W_ret ?_)
           exact ⟨.inl rfl, by cases h; rfl⟩
          ·replace h := bif_f h g8
           obtain ⟨g9, g10, g11, h⟩ := gd3 h
           refine Vg hT fN [(2, true), (11, false)] [] [0] ⟨[(0, kH 0), (3, kI i3_2), (5, kI i5_8), (78, kB (decide (i7_17 < (((l0.getD ((i3_2 + 1).toNat) 0).toNat : Nat) : Int))))], [], [ob 5 l0]⟩ (aP g4 (aP g5 (aP g6 (aP g7 (aP g8 (aP g9 (aP g10 (aP g11 aN)))))))) ?_
           refine Vi ((decide (i7_17 < (((l0.getD ((i3_2 + 1).toNat) 0).toNat : Nat) : Int)))) (fun g21 => ?_) (fun g21 => ?_)
           ·replace h := bif_t h g21
            refine Vrs hT [] ⟨[(2, kB false)], [], []⟩ ?_
            refine Vc [] [] (rPoints_R false) (W_ret ?_)
            exact ⟨.inl rfl, by cases h; rfl⟩
           ·replace h := bif_f h g21
            refine W_skip ?_
            refine W_seq ?_
            refine Vrs hT [0] ⟨[(0, kH 0), (3, kI i3_2), (5, kI i5_8), (8, kI 2)], [], [ob 5 l0]⟩ ?_
            refine W_block ?_
            refine Vc [] [0] (rPoints_l2_E l0 i3_2 i5_8 2) (W_lp ((rPoints_l2_P n l0 i3_2 i5_8 (rPoints_l1 n l0 fu_l1) r)) n ⟨_, rfl, h⟩ ?_)
            rintro fu_l2 _ ⟨i8_16, rfl, h⟩
            cases fu_l2 with
            | zero => cases h
            | succ fu_l2 =>
             refine ⟨fu_l2, rfl, ?_⟩
             rw [rPoints_l2] at h
             refine W_seq ?_
             refine Vrs hT [0] ⟨[(0, kH 0), (3, kI i3_2), (5, kI i5_8), (8, kI i8_16), (81, kB (decide (i8_16 ≤ i5_8)))], [], [ob 5 l0]⟩ ?_
             refine Vi ((decide (i8_16 ≤ i5_8))) (fun g20 => ?_) (fun g20 => ?_)
             ·replace h := bif_t h g20
              refine W_skip ?_
              refine W_seq ?_
              refine W_block ?_
              obtain ⟨g12, g13, g14, h⟩ := gd3 h
              obtain ⟨r90_20, g15, h⟩ := bind_some' h
              refine Vgs hT (fT 6 (rlater_ok n r90_20) fN) [] [] [0] ⟨[(0, kH 0), (3, kI i3_2), (5, kI i5_8), (8, kI i8_16), (9, kB r90_20)], [], [ob 5 l0]⟩ (aP g12 (aP g13 (aP g14 (aP g15 aN)))) ?_
              refine Vrs hT [0] ⟨[(0, kH 0), (3, kI i3_2), (5, kI i5_8), (8, kI i8_16), (92, kB (!r90_20))], [], [ob 5 l0]⟩ ?_
              refine Vi ((!r90_20)) (fun g17 => ?_) (fun g17 => ?_)
              ·replace h := bif_t h g17
               refine Vrs hT [] ⟨[(2, kB false)], [], []⟩ ?_
               refine Vc [] [] (rPoints_R false) (W_ret ?_)
               exact ⟨.inl rfl, by cases h; rfl⟩
              ·replace h := bif_f h g17
               refine W_skip ?_
               obtain ⟨g16, h⟩ := gd_some h
               refine Vg hT fN [] [] [0] (rPoints_l2_E l0 i3_2 i5_8 (i8_16 + 1)) (aP g16 aN) ?_
               exact ⟨_, rfl, h⟩
             ·replace h := bif_f h g20
              refine Vc [] [0] ⟨[(0, kH 0), (3, kI i3_2), (5, kI i5_8)], [], [ob 5 l0]⟩ (W_exit ?_)
              obtain ⟨g18, g19, h⟩ := gd2 h
              refine Vg hT fN [] [] [0] (rPoints_l1_E l0 ((i3_2 + 1) + i5_8)) (aP g18 (aP g19 aN)) ?_
              exact ⟨_, rfl, h⟩
         ·replace h := bif_f h g4
          refine Vg hT fN [(2, false)] [] [0] ⟨[(0, kH 0), (3, kI i3_2), (5, kI i5_8), (78, kB false)], [], [ob 5 l0]⟩ (aP g4 aN) ?_
          refine Vi (false) (fun hb => by cases hb) (fun _ => ?_)
          refine W_skip ?_
          refine W_seq ?_
          refine Vrs hT [0] ⟨[(0, kH 0), (3, kI i3_2), (5, kI i5_8), (8, kI 2)], [], [ob 5 l0]⟩ ?_
          refine W_block ?_
          refine Vc [] [0] (rPoints_l3_E l0 i3_2 i5_8 2) (W_lp ((rPoints_l3_P n l0 i3_2 i5_8 (rPoints_l1 n l0 fu_l1) r)) n ⟨_, rfl, h⟩ ?_)
          rintro fu_l3 _ ⟨i8_17, rfl, h⟩
          cases fu_l3 with
          | zero => cases h
          | succ fu_l3 =>
           refine ⟨fu_l3, rfl, ?_⟩
           rw [rPoints_l3] at h
           refine W_seq ?_
           refine Vrs hT [0] ⟨[(0, kH 0), (3, kI i3_2), (5, kI i5_8), (8, kI i8_17), (81, kB (decide (i8_17 ≤ i5_8)))], [], [ob 5 l0]⟩ ?_
           refine Vi ((decide (i8_17 ≤ i5_8))) (fun g30 => ?_) (fun g30 => ?_)
           ·replace h := bif_t h g30
            refine W_skip ?_
            refine W_seq ?_
            refine W_block ?_
            obtain ⟨g22, g23, g24, h⟩ := gd3 h
            obtain ⟨r90_21, g25, h⟩ := bind_some' h
            refine Vgs hT (fT 6 (rlater_ok n r90_21) fN) [] [] [0] ⟨[(0, kH 0), (3, kI i3_2), (5, kI i5_8), (8, kI i8_17), (9, kB r90_21)], [], [ob 5 l0]⟩ (aP g22 (aP g23 (aP g24 (aP g25 aN)))) ?_
            refine Vrs hT [0] ⟨[(0, kH 0), (3, kI i3_2), (5, kI i5_8), (8, kI i8_17), (92, kB (!r90_21))], [], [ob 5 l0]⟩ ?_
            refine Vi ((!r90_21)) (fun g27 => ?_) (fun g27 => ?_)
            ·replace h := bif_t h g27
             refine Vrs hT [] ⟨[(2, kB false)], [], []⟩ ?_
             refine Vc [] [] (rPoints_R false) (W_ret ?_)
             exact ⟨.inl rfl, by cases h; rfl⟩
            ·replace h := bif_f h g27
             refine W_skip ?_
             obtain ⟨g26, h⟩ := gd_some h
             refine Vg hT fN [] [] [0] (rPoints_l3_E l0 i3_2 i5_8 (i8_17 + 1)) (aP g26 aN) ?_
             exact ⟨_, rfl, h⟩
           ·replace h := bif_f h g30
            refine Vc [] [0] ⟨[(0, kH 0), (3, kI i3_2), (5, kI i5_8)], [], [ob 5 l0]⟩ (W_exit ?_)
            obtain ⟨g28, g29, h⟩ := gd2 h
            refine Vg hT fN [] [] [0] (rPoints_l1_E l0 ((i3_2 + 1) + i5_8)) (aP g28 (aP g29 aN)) ?_
            exact ⟨_, rfl, h⟩
       ·refine W_seq ?_
        refine Vr hT [0] ⟨[(0, kH 0), (3, kI i3_2), (5, kI i5_8), (6, kI i6_17), (7, kI i7_16), (50, kB ((((l0.getD i3_2.toNat 0).toNat : Nat) : Int) == 244))], [], [ob 5 l0]⟩ ?_
        refine Vi (((((l0.getD i3_2.toNat 0).toNat : Nat) : Int) == 244)) (fun g32 => ?_) (fun g32 => ?_)
        ·replace h := bif_t h g32
         refine Vr hT [0] (rPoints_j5_E l0 i3_2 i5_8 i6_17 143) ?_
         exact ⟨_, rfl, h⟩
        ·replace h := bif_f h g32
         refine Vc [] [0] (rPoints_j5_E l0 i3_2 i5_8 i6_17 i7_16) (W_skip ?_)
         exact ⟨_, rfl, h⟩
      ·refine W_seq ?_
       refine Vr hT [0] ⟨[(0, kH 0), (3, kI i3_2), (4, kI (((l0.getD i3_2.toNat 0).toNat : Nat) : Int)), (5, kI i5_8), (6, kI i6_16), (7, kI i7_16), (48, kB ((((l0.getD i3_2.toNat 0).toNat : Nat) : Int) == 240))], [], [ob 5 l0]⟩ ?_
       refine Vi (((((l0.getD i3_2.toNat 0).toNat : Nat) : Int) == 240)) (fun g33 => ?_) (fun g33 => ?_)
       ·replace h := bif_t h g33
        refine Vr hT [0] (rPoints_j4_E l0 i3_2 i5_8 i7_16 144) ?_
        exact ⟨_, rfl, h⟩
       ·replace h := bif_f h g33
        refine Vc [] [0] (rPoints_j4_E l0 i3_2 i5_8 i7_16 i6_16) (W_skip ?_)
        exact ⟨_, rfl, h⟩
     ·refine W_seq ?_
      refine Vr hT [0] ⟨[(0, kH 0), (3, kI i3_2), (4, kI (((l0.getD i3_2.toNat 0).toNat : Nat) : Int)), (5, kI i5_8), (6, kI i6_16), (7, kI 191), (46, kB ((((l0.getD i3_2.toNat 0).toNat : Nat) : Int) == 237))], [], [ob 5 l0]⟩ ?_
      refine Vi (((((l0.getD i3_2.toNat 0).toNat : Nat) : Int) == 237)) (fun g34 => ?_) (fun g34 => ?_)
      ·replace h := bif_t h g34
       refine Vr hT [0] (rPoints_j3_E l0 i3_2 i5_8 i6_16 159) ?_
       exact ⟨_, rfl, h⟩
      ·replace h := bif_f h g34
       refine Vc [] [0] (rPoints_j3_E l0 i3_2 i5_8 i6_16 191) (W_skip ?_)
       exact ⟨_, rfl, h⟩
    ·refine W_seq ?_
     refine Vr hT [0] ⟨[(0, kH 0), (3, kI i3_2), (4, kI (((l0.getD i3_2.toNat 0).toNat : Nat) : Int)), (5, kI i5_8), (6, kI 128), (7, kI 191), (44, kB ((((l0.getD i3_2.toNat 0).toNat : Nat) : Int) == 224))], [], [ob 5 l0]⟩ ?_
     refine Vi (((((l0.getD i3_2.toNat 0).toNat : Nat) : Int) == 224)) (fun g35 => ?_) (fun g35 => ?_)
     ·replace h := bif_t h g35
      refine Vr hT [0] (rPoints_j2_E l0 i3_2 i5_8 160) ?_
      exact ⟨_, rfl, h⟩
     ·replace h := bif_f h g35
      refine Vc [] [0] (rPoints_j2_E l0 i3_2 i5_8 128) (W_skip ?_)
      exact ⟨_, rfl, h⟩
   ·refine W_block ?_
    refine Vrs hT [0] ⟨[(0, kH 0), (3, kI i3_2), (4, kI (((l0.getD i3_2.toNat 0).toNat : Nat) : Int)), (6, kI 128), (7, kI 191), (19, kB (decide ((((l0.getD i3_2.toNat 0).toNat : Nat) : Int) < (128 : Int))))], [], [ob 5 l0]⟩ ?_
    refine Vi ((decide ((((l0.getD i3_2.toNat 0).toNat : Nat) : Int) < (128 : Int)))) (fun g50 => ?_) (fun g50 => ?_)
    ·replace h := bif_t h g50
     refine Vr hT [0] (rPoints_j1_E l0 i3_2 0) ?_
     exact ⟨_, rfl, h⟩
    ·replace h := bif_f h g50
     refine W_seq ?_
     rcases Bool.eq_false_or_eq_true (decide ((194 : Int) ≤ (((l0.getD i3_2.toNat 0).toNat : Nat) : Int))) with g36 | g36
     ·replace h := bif_t h g36
      refine Vg hT fN [(2, true)] [] [0] ⟨[(0, kH 0), (3, kI i3_2), (4, kI (((l0.getD i3_2.toNat 0).toNat : Nat) : Int)), (6, kI 128), (7, kI 191), (22, kB (decide ((((l0.getD i3_2.toNat 0).toNat : Nat) : Int) ≤ (223 : Int))))], [], [ob 5 l0]⟩ (aP g36 aN) ?_
      refine Vi ((decide ((((l0.getD i3_2.toNat 0).toNat : Nat) : Int) ≤ (223 : Int)))) (fun g43 => ?_) (fun g43 => ?_)
      ·replace h := bif_t h g43
       refine Vr hT [0] (rPoints_j1_E l0 i3_2 1) ?_
       exact ⟨_, rfl, h⟩
      ·replace h := bif_f h g43
       refine W_seq ?_
       rcases Bool.eq_false_or_eq_true (decide ((224 : Int) ≤ (((l0.getD i3_2.toNat 0).toNat : Nat) : Int))) with g37 | g37
       ·replace h := bif_t h g37
        refine Vg hT fN [(2, true)] [] [0] ⟨[(0, kH 0), (3, kI i3_2), (4, kI (((l0.getD i3_2.toNat 0).toNat : Nat) : Int)), (6, kI 128), (7, kI 191), (29, kB (decide ((((l0.getD i3_2.toNat 0).toNat : Nat) : Int) ≤ (239 : Int))))], [], [ob 5 l0]⟩ (aP g37 aN) ?_
        refine Vi ((decide ((((l0.getD i3_2.toNat 0).toNat : Nat) : Int) ≤ (239 : Int)))) (fun g40 => ?_) (fun g40 => ?_)
        ·replace h := bif_t h g40
         refine Vr hT [0] (rPoints_j1_E l0 i3_2 2) ?_
         exact ⟨_, rfl, h⟩
        ·replace h := bif_f h g40
         refine W_seq ?_
         rcases Bool.eq_false_or_eq_true (decide ((240 : Int) ≤ (((l0.getD i3_2.toNat 0).toNat : Nat) : Int))) with g38 | g38
         ·replace h := bif_t h g38
          refine Vg hT fN [(2, true)] [] [0] ⟨[(0, kH 0), (3, kI i3_2), (4, kI (((l0.getD i3_2.toNat 0).toNat : Nat) : Int)), (6, kI 128), (7, kI 191), (36, kB (decide ((((l0.getD i3_2.toNat 0).toNat : Nat) : Int) ≤ (244 : Int))))], [], [ob 5 l0]⟩ (aP g38 aN) ?_
          refine Vi ((decide ((((l0.getD i3_2.toNat 0).toNat : Nat) : Int) ≤ (244 : Int)))) (fun g39 => ?_) (fun g39 => ?_)
          ·replace h := bif_t h g39
           refine Vr hT [0] (rPoints_j1_E l0 i3_2 3) ?_
           exact ⟨_, rfl, h⟩
          ·replace h := bif_f h g39
           refine Vrs hT [] ⟨[(2, kB false)], [], []⟩ ?_
           refine Vc [] [] (rPoints_R false) (W_ret ?_)
           exact ⟨.inl rfl, by cases h; rfl⟩
         ·replace h := bif_f h g38
          refine Vg hT fN [(2, false)] [] [0] ⟨[(0, kH 0), (3, kI i3_2), (4, kI (((l0.getD i3_2.toNat 0).toNat : Nat) : Int)), (6, kI 128), (7, kI 191), (36, kB false)], [], [ob 5 l0]⟩ (aP g38 aN) ?_
          refine Vi (false) (fun hb => by cases hb) (fun _ => ?_)
          refine Vrs hT [] ⟨[(2, kB false)], [], []⟩ ?_
          refine Vc [] [] (rPoints_R false) (W_ret ?_)
          exact ⟨.inl rfl, by cases h; rfl⟩
       ·replace h := bif_f h g37
        refine Vg hT fN [(2, false)] [] [0] ⟨[(0, kH 0), (3, kI i3_2), (4, kI (((l0.getD i3_2.toNat 0).toNat : Nat) : Int)), (6, kI 128), (7, kI 191), (29, kB false)], [], [ob 5 l0]⟩ (aP g37 aN) ?_
        refine Vi (false) (fun hb => by cases hb) (fun _ => ?_)
        refine W_seq ?_
        rcases Bool.eq_false_or_eq_true (decide ((240 : Int) ≤ (((l0.getD i3_2.toNat 0).toNat : Nat) : Int))) with g41 | g41
        ·replace h := bif_t h g41
         refine Vg hT fN [(2, true)] [] [0] ⟨[(0, kH 0), (3, kI i3_2), (4, kI (((l0.getD i3_2.toNat 0).toNat : Nat) : Int)), (6, kI 128), (7, kI 191), (36, kB (decide ((((l0.getD i3_2.toNat 0).toNat : Nat) : Int) ≤ (244 : Int))))], [], [ob 5 l0]⟩ (aP g41 aN) ?_
         refine Vi ((decide ((((l0.getD i3_2.toNat 0).toNat : Nat) : Int) ≤ (244 : Int)))) (fun g42 => ?_) (fun g42 => ?_)
         ·replace h := bif_t h g42
          refine Vr hT [0] (rPoints_j1_E l0 i3_2 3) ?_
          exact ⟨_, rfl, h⟩
         ·replace h := bif_f h g42
          refine Vrs hT [] ⟨[(2, kB false)], [], []⟩ ?_
          refine Vc [] [] (rPoints_R false) (W_ret ?_)
          exact ⟨.inl rfl, by cases h; rfl⟩
        ·replace h := bif_f h g41
         refine Vg hT fN [(2, false)] [] [0] ⟨[(0, kH 0), (3, kI i3_2), (4, kI (((l0.getD i3_2.toNat 0).toNat : Nat) : Int)), (6, kI 128), (7, kI 191), (36, kB false)], [], [ob 5 l0]⟩ (aP g41 aN) ?_
         refine Vi (false) (fun hb => by cases hb) (fun _ => ?_)
         refine Vrs hT [] ⟨[(2, kB false)], [], []⟩ ?_
         refine Vc [] [] (rPoints_R false) (W_ret ?_)
         exact ⟨.inl rfl, by cases h; rfl⟩
     ·replace h := bif_f h g36
      refine Vg hT fN [(2, false)] [] [0] ⟨[(0, kH 0), (3, kI i3_2), (4, kI (((l0.getD i3_2.toNat 0).toNat : Nat) : Int)), (6, kI 128), (7, kI 191), (22, kB false)], [], [ob 5 l0]⟩ (aP g36 aN) ?_
      refine Vi (false) (fun hb => by cases hb) (fun _ => ?_)
      refine W_seq ?_
      rcases Bool.eq_false_or_eq_true (decide ((224 : Int) ≤ (((l0.getD i3_2.toNat 0).toNat : Nat) : Int))) with g44 | g44
      ·replace h := bif_t h g44
       refine Vg hT fN [(2, true)] [] [0] ⟨[(0, kH 0), (3, kI i3_2), (4, kI (((l0.getD i3_2.toNat 0).toNat : Nat) : Int)), (6, kI 128), (7, kI 191), (29, kB (decide ((((l0.getD i3_2.toNat 0).toNat : Nat) : Int) ≤ (239 : Int))))], [], [ob 5 l0]⟩ (aP g44 aN) ?_
       refine Vi ((decide ((((l0.getD i3_2.toNat 0).toNat : Nat) : Int) ≤ (239 : Int)))) (fun g47 => ?_) (fun g47 => ?_)
       ·replace h := bif_t h g47
        refine Vr hT [0] (rPoints_j1_E l0 i3_2 2) ?_
        exact ⟨_, rfl, h⟩
       ·replace h := bif_f h g47
        refine W_seq ?_
        rcases Bool.eq_false_or_eq_true (decide ((240 : Int) ≤ (((l0.getD i3_2.toNat 0).toNat : Nat) : Int))) with g45 | g45
        ·replace h := bif_t h g45
         refine Vg hT fN [(2, true)] [] [0] ⟨[(0, kH 0), (3, kI i3_2), (4, kI (((l0.getD i3_2.toNat 0).toNat : Nat) : Int)), (6, kI 128), (7, kI 191), (36, kB (decide ((((l0.getD i3_2.toNat 0).toNat : Nat) : Int) ≤ (244 : Int))))], [], [ob 5 l0]⟩ (aP g45 aN) ?_
         refine Vi ((decide ((((l0.getD i3_2.toNat 0).toNat : Nat) : Int) ≤ (244 : Int)))) (fun g46 => ?_) (fun g46 => ?_)
         ·replace h := bif_t h g46
          refine Vr hT [0] (rPoints_j1_E l0 i3_2 3) ?_
          exact ⟨_, rfl, h⟩
         ·replace h := bif_f h g46
          refine Vrs hT [] ⟨[(2, kB false)], [], []⟩ ?_
          refine Vc [] [] (rPoints_R false) (W_ret ?_)
          exact ⟨.inl rfl, by cases h; rfl⟩
        ·replace h := bif_f h g45
         refine Vg hT fN [(2, false)] [] [0] ⟨[(0, kH 0), (3, kI i3_2), (4, kI (((l0.getD i3_2.toNat 0).toNat : Nat) : Int)), (6, kI 128), (7, kI 191), (36, kB false)], [], [ob 5 l0]⟩ (aP g45 aN) ?_
         refine Vi (false) (fun hb => by cases hb) (fun _ => ?_)
         refine Vrs hT [] ⟨[(2, kB false)], [], []⟩ ?_
         refine Vc [] [] (rPoints_R false) (W_ret ?_)
         exact ⟨.inl rfl, by cases h; rfl⟩
      ·replace h := bif_f h g44
       refine Vg hT fN [(2, false)] [] [0] ⟨[(0, kH 0), (3, kI i3_2), (4, kI (((l0.getD i3_2.toNat 0).toNat : Nat) : Int)), (6, kI 128), (7, kI 191), (29, kB false)], [], [ob 5 l0]⟩ (aP g44 aN) ?_
       refine Vi (false) (fun hb => by cases hb) (fun _ => ?_)
       refine W_seq ?_
       rcases Bool.eq_false_or_eq_true (decide ((240 : Int) ≤ (((l0.getD i3_2.toNat 0).toNat : Nat) : Int))) with g48 | g48
       ·replace h := bif_t h g48
        refine Vg hT fN [(2, true)] [] [0] ⟨[(0, kH 0), (3, kI i3_2), (4, kI (((l0.getD i3_2.toNat 0).toNat : Nat) : Int)), (6, kI 128), (7, kI 191), (36, kB (decide ((((l0.getD i3_2.toNat 0).toNat : Nat) : Int) ≤ (244 : Int))))], [], [ob 5 l0]⟩ (aP g48 aN) ?_
        refine Vi ((decide ((((l0.getD i3_2.toNat 0).toNat : Nat) : Int) ≤ (244 : Int)))) (fun g49 => ?_) (fun g49 => ?_)
        ·replace h := bif_t h g49
         refine Vr hT [0] (rPoints_j1_E l0 i3_2 3) ?_
         exact ⟨_, rfl, h⟩
        ·replace h := bif_f h g49
         refine Vrs hT [] ⟨[(2, kB false)], [], []⟩ ?_
         refine Vc [] [] (rPoints_R false) (W_ret ?_)
         exact ⟨.inl rfl, by cases h; rfl⟩
       ·replace h := bif_f h g48
        refine Vg hT fN [(2, false)] [] [0] ⟨[(0, kH 0), (3, kI i3_2), (4, kI (((l0.getD i3_2.toNat 0).toNat : Nat) : Int)), (6, kI 128), (7, kI 191), (36, kB false)], [], [ob 5 l0]⟩ (aP g48 aN) ?_
        refine Vi (false) (fun hb => by cases hb) (fun _ => ?_)
        refine Vrs hT [] ⟨[(2, kB false)], [], []⟩ ?_
        refine Vc [] [] (rPoints_R false) (W_ret ?_)
        exact ⟨.inl rfl, by cases h; rfl⟩
  ·replace h := bif_f h g51
   refine Vc [] [] ⟨[], [], []⟩ (W_exit ?_)
   refine Vrs hT [] ⟨[(2, kB true)], [], []⟩ ?_
   refine Vc [] [] (rPoints_R true) (W_ret ?_)
   exact ⟨.inl rfl, by cases h; rfl⟩
def rText_j1_E (a0 : UInt8) (a1 : List UInt8) (i5_2 : Int) : S := ⟨[(0, kU a0), (1, kH 0), (5, kI i5_2)], [], [ob 5 a1]⟩
abbrev rText_j1_P (n : Nat) (a0 : UInt8) (a1 : List UInt8) (i5_2 : Int) (k_l1 : Int → Option (Bool)) (r : Bool) : S → Prop := fun s => s = rText_j1_E a0 a1 i5_2 ∧ rText_j1 n a0 a1 i5_2 k_l1 = some r
def rText_l2_E (a0 : UInt8) (a1 : List UInt8) (i5_2 : Int) (i9_187 : Int) : S := ⟨[(0, kU a0), (1, kH 0), (5, kI i5_2), (6, kU (a1.getD i5_2.toNat 0)), (7, kB true), (8, kH 1), (9, kI i9_187)], [], [ob 5 a1, nb 5 [32, 39, 40, 41, 43, 44, 45, 46, 47, 58, 61, 63]]⟩
abbrev rText_l2_P (n : Nat) (a0 : UInt8) (a1 : List UInt8) (i5_2 : Int) (k_l1 : Int → Option (Bool)) (r : Bool) (fu : Nat) : S → Prop := fun s => ∃ (i9_187 : Int), s = rText_l2_E a0 a1 i5_2 i9_187 ∧ rText_l2 n a0 a1 i5_2 k_l1 fu i9_187 = some r
def rText_l3_E (a0 : UInt8) (a1 : List UInt8) (i5_2 : Int) (i9_188 : Int) : S := ⟨[(0, kU a0), (1, kH 0), (5, kI i5_2), (6, kU (a1.getD i5_2.toNat 0)), (7, kB true), (8, kH 1), (9, kI i9_188)], [], [ob 5 a1, nb 5 [32, 39, 40, 41, 43, 44, 45, 46, 47, 58, 61, 63]]⟩
abbrev rText_l3_P (n : Nat) (a0 : UInt8) (a1 : List UInt8) (i5_2 : Int) (k_l1 : Int → Option (Bool)) (r : Bool) (fu : Nat) : S → Prop := fun s => ∃ (i9_188 : Int), s = rText_l3_E a0 a1 i5_2 i9_188 ∧ rText_l3 n a0 a1 i5_2 k_l1 fu i9_188 = some r
def rText_l4_E (a0 : UInt8) (a1 : List UInt8) (i5_2 : Int) (p7_136 : Bool) (i9_189 : Int) : S := ⟨[(0, kU a0), (1, kH 0), (5, kI i5_2), (6, kU (a1.getD i5_2.toNat 0)), (7, kB p7_136), (8, kH 1), (9, kI i9_189)], [], [ob 5 a1, nb 5 [32, 39, 40, 41, 43, 44, 45, 46, 47, 58, 61, 63]]⟩
abbrev rText_l4_P (n : Nat) (a0 : UInt8) (a1 : List UInt8) (i5_2 : Int) (k_l1 : Int → Option (Bool)) (r : Bool) (fu : Nat) : S → Prop := fun s => ∃ (p7_136 : Bool), ∃ (i9_189 : Int), s = rText_l4_E a0 a1 i5_2 p7_136 i9_189 ∧ rText_l4 n a0 a1 i5_2 k_l1 fu p7_136 i9_189 = some r
def rText_l5_E (a0 : UInt8) (a1 : List UInt8) (i5_2 : Int) (p7_137 : Bool) (i9_190 : Int) : S := ⟨[(0, kU a0), (1, kH 0), (5, kI i5_2), (6, kU (a1.getD i5_2.toNat 0)), (7, kB p7_137), (8, kH 1), (9, kI i9_190)], [], [ob 5 a1, nb 5 [32, 39, 40, 41, 43, 44, 45, 46, 47, 58, 61, 63]]⟩
abbrev rText_l5_P (n : Nat) (a0 : UInt8) (a1 : List UInt8) (i5_2 : Int) (k_l1 : Int → Option (Bool)) (r : Bool) (fu : Nat) : S → Prop := fun s => ∃ (p7_137 : Bool), ∃ (i9_190 : Int), s = rText_l5_E a0 a1 i5_2 p7_137 i9_190 ∧ rText_l5 n a0 a1 i5_2 k_l1 fu p7_137 i9_190 = some r
def rText_l6_E (a0 : UInt8) (a1 : List UInt8) (i5_2 : Int) (p7_138 : Bool) (i9_191 : Int) : S := ⟨[(0, kU a0), (1, kH 0), (5, kI i5_2), (6, kU (a1.getD i5_2.toNat 0)), (7, kB p7_138), (8, kH 1), (9, kI i9_191)], [], [ob 5 a1, nb 5 [32, 39, 40, 41, 43, 44, 45, 46, 47, 58, 61, 63]]⟩
abbrev rText_l6_P (n : Nat) (a0 : UInt8) (a1 : List UInt8) (i5_2 : Int) (k_l1 : Int → Option (Bool)) (r : Bool) (fu : Nat) : S → Prop := fun s => ∃ (p7_138 : Bool), ∃ (i9_191 : Int), s = rText_l6_E a0 a1 i5_2 p7_138 i9_191 ∧ rText_l6 n a0 a1 i5_2 k_l1 fu p7_138 i9_191 = some r
def rText_l7_E (a0 : UInt8) (a1 : List UInt8) (i5_2 : Int) (p7_139 : Bool) (i9_192 : Int) : S := ⟨[(0, kU a0), (1, kH 0), (5, kI i5_2), (6, kU (a1.getD i5_2.toNat 0)), (7, kB p7_139), (8, kH 1), (9, kI i9_192)], [], [ob 5 a1, nb 5 [32, 39, 40, 41, 43, 44, 45, 46, 47, 58, 61, 63]]⟩
abbrev rText_l7_P (n : Nat) (a0 : UInt8) (a1 : List UInt8) (i5_2 : Int) (k_l1 : Int → Option (Bool)) (r : Bool) (fu : Nat) : S → Prop := fun s => ∃ (p7_139 : Bool), ∃ (i9_192 : Int), s = rText_l7_E a0 a1 i5_2 p7_139 i9_192 ∧ rText_l7 n a0 a1 i5_2 k_l1 fu p7_139 i9_192 = some r
def rText_l8_E (a0 : UInt8) (a1 : List UInt8) (i5_2 : Int) (i9_193 : Int) : S := ⟨[(0, kU a0), (1, kH 0), (5, kI i5_2), (6, kU (a1.getD i5_2.toNat 0)), (7, kB true), (8, kH 1), (9, kI i9_193)], [], [ob 5 a1, nb 5 [32, 39, 40, 41, 43, 44, 45, 46, 47, 58, 61, 63]]⟩
abbrev rText_l8_P (n : Nat) (a0 : UInt8) (a1 : List UInt8) (i5_2 : Int) (k_l1 : Int → Option (Bool)) (r : Bool) (fu : Nat) : S → Prop := fun s => ∃ (i9_193 : Int), s = rText_l8_E a0 a1 i5_2 i9_193 ∧ rText_l8 n a0 a1 i5_2 k_l1 fu i9_193 = some r
def rText_l9_E (a0 : UInt8) (a1 : List UInt8) (i5_2 : Int) (p7_140 : Bool) (i9_194 : Int) : S := ⟨[(0, kU a0), (1, kH 0), (5, kI i5_2), (6, kU (a1.getD i5_2.toNat 0)), (7, kB p7_140), (8, kH 1), (9, kI i9_194)], [], [ob 5 a1, nb 5 [32, 39, 40, 41, 43, 44, 45, 46, 47, 58, 61, 63]]⟩
abbrev rText_l9_P (n : Nat) (a0 : UInt8) (a1 : List UInt8) (i5_2 : Int) (k_l1 : Int → Option (Bool)) (r : Bool) (fu : Nat) : S → Prop := fun s => ∃ (p7_140 : Bool), ∃ (i9_194 : Int), s = rText_l9_E a0 a1 i5_2 p7_140 i9_194 ∧ rText_l9 n a0 a1 i5_2 k_l1 fu p7_140 i9_194 = some r
def rText_l10_E (a0 : UInt8) (a1 : List UInt8) (i5_2 : Int) (p7_141 : Bool) (i9_195 : Int) : S := ⟨[(0, kU a0), (1, kH 0), (5, kI i5_2), (6, kU (a1.getD i5_2.toNat 0)), (7, kB p7_141), (8, kH 1), (9, kI i9_195)], [], [ob 5 a1, nb 5 [32, 39, 40, 41, 43, 44, 45, 46, 47, 58, 61, 63]]⟩
abbrev rText_l10_P (n : Nat) (a0 : UInt8) (a1 : List UInt8) (i5_2 : Int) (k_l1 : Int → Option (Bool)) (r : Bool) (fu : Nat) : S → Prop := fun s => ∃ (p7_141 : Bool), ∃ (i9_195 : Int), s = rText_l10_E a0 a1 i5_2 p7_141 i9_195 ∧ rText_l10 n a0 a1 i5_2 k_l1 fu p7_141 i9_195 = some r
def rText_l11_E (a0 : UInt8) (a1 : List UInt8) (i5_2 : Int) (p7_142 : Bool) (i9_196 : Int) : S := ⟨[(0, kU a0), (1, kH 0), (5, kI i5_2), (6, kU (a1.getD i5_2.toNat 0)), (7, kB p7_142), (8, kH 1), (9, kI i9_196)], [], [ob 5 a1, nb 5 [32, 39, 40, 41, 43, 44, 45, 46, 47, 58, 61, 63]]⟩
abbrev rText_l11_P (n : Nat) (a0 : UInt8) (a1 : List UInt8) (i5_2 : Int) (k_l1 : Int → Option (Bool)) (r : Bool) (fu : Nat) : S → Prop := fun s => ∃ (p7_142 : Bool), ∃ (i9_196 : Int), s = rText_l11_E a0 a1 i5_2 p7_142 i9_196 ∧ rText_l11 n a0 a1 i5_2 k_l1 fu p7_142 i9_196 = some r
def rText_l12_E (a0 : UInt8) (a1 : List UInt8) (i5_2 : Int) (p7_143 : Bool) (i9_197 : Int) : S := ⟨[(0, kU a0), (1, kH 0), (5, kI i5_2), (6, kU (a1.getD i5_2.toNat 0)), (7, kB p7_143), (8, kH 1), (9, kI i9_197)], [], [ob 5 a1, nb 5 [32, 39, 40, 41, 43, 44, 45, 46, 47, 58, 61, 63]]⟩
abbrev rText_l12_P (n : Nat) (a0 : UInt8) (a1 : List UInt8) (i5_2 : Int) (k_l1 : Int → Option (Bool)) (r : Bool) (fu : Nat) : S → Prop := fun s => ∃ (p7_143 : Bool), ∃ (i9_197 : Int), s = rText_l12_E a0 a1 i5_2 p7_143 i9_197 ∧ rText_l12 n a0 a1 i5_2 k_l1 fu p7_143 i9_197 = some r
def rText_l1_E (a0 : UInt8) (a1 : List UInt8) (i5_2 : Int) : S := ⟨[(0, kU a0), (1, kH 0), (5, kI i5_2)], [], [ob 5 a1]⟩
abbrev rText_l1_P (n : Nat) (a0 : UInt8) (a1 : List UInt8) (r : Bool) (fu : Nat) : S → Prop := fun s => ∃ (i5_2 : Int), s = rText_l1_E a0 a1 i5_2 ∧ rText_l1 n a0 a1 fu i5_2 = some r
def rText_R (r : Bool) : S := ⟨[(4, kB r)], [], []⟩
def rText_ct (n : Nat) (r : Bool) : Ct := ctc rU8.rd fun _ l0 => ctc (rB 5).rd fun _ l1 => ct0 fun H => ([rText n l0 l1 = some r], shA H.length (kB r), shH H.length [])
theorem rText_ok (n : Nat) (r : Bool) : FnOk Tryz.prog Tr 80 (rText_ct n r) := by
 refine fnok Tryz.func80 ?_
 refine HO_c rU8 fun l0 _ => HO_c (rB 5) fun l1 _ => HO_0 tabO_oa (rText_R r) [.tmp 4] [] 68 Tryz.func80 fun w hG h => ?_
 unfold rText at h
 have hT := tabO_oa
 refine Vrs hT [0] ⟨[(0, kU l0), (1, kH 0)], [], [ob 5 l1]⟩ ?_
 refine W_seq ?_
 refine Vrs hT [0] ⟨[(0, kU l0), (1, kH 0), (11, kB (l0 == 12))], [], [ob 5 l1]⟩ ?_
 refine Vi ((l0 == 12)) (fun g80 => ?_) (fun g80 => ?_)
 ·replace h := bif_t h g80
  obtain ⟨r13, g1, h⟩ := bind_some' h
  refine Vgs hT (fT 1 (rPoints_ok n r13) fN) [] [] [] ⟨[(4, kB r13)], [], []⟩ (aP g1 aN) ?_
  refine Vc [] [] (rText_R r13) (W_ret ?_)
  exact ⟨.inl rfl, by cases h; rfl⟩
 ·replace h := bif_f h g80
  refine W_skip ?_
  refine W_seq ?_
  refine Vrs hT [0] ⟨[(0, kU l0), (1, kH 0), (5, kI 0)], [], [ob 5 l1]⟩ ?_
  refine W_block ?_
  refine Vc [] [0] (rText_l1_E l0 l1 0) (W_lp ((rText_l1_P n l0 l1 r)) n ⟨_, rfl, h⟩ ?_)
  rintro fu_l1 _ ⟨i5_2, rfl, h⟩
  cases fu_l1 with
  | zero => cases h
  | succ fu_l1 =>
   refine ⟨fu_l1, rfl, ?_⟩
   rw [rText_l1] at h
   refine W_seq ?_
   refine Vrs hT [0] ⟨[(0, kU l0), (1, kH 0), (5, kI i5_2), (17, kB (decide (i5_2 < ((l1.length : Nat) : Int))))], [], [ob 5 l1]⟩ ?_
   refine Vi ((decide (i5_2 < ((l1.length : Nat) : Int)))) (fun g79 => ?_) (fun g79 => ?_)
   ·replace h := bif_t h g79
    refine Vc [] [0] ⟨[(0, kU l0), (1, kH 0), (5, kI i5_2)], [], [ob 5 l1]⟩ (W_skip ?_)
    refine W_join (rText_j1_P n l0 l1 i5_2 (rText_l1 n l0 l1 fu_l1) r) ?_ ?_
    ·rintro _ ⟨rfl, h⟩
     unfold rText_j1 at h
     obtain ⟨g2, h⟩ := gd_some h
     refine Vg hT fN [] [] [0] (rText_l1_E l0 l1 (i5_2 + 1)) (aP g2 aN) ?_
     exact ⟨_, rfl, h⟩
    ·refine W_block ?_
     obtain ⟨g3, g4, h⟩ := gd2 h
     refine Vgs hT fN [] [] [0] ⟨[(0, kU l0), (1, kH 0), (5, kI i5_2), (6, kU (l1.getD i5_2.toNat 0))], [], [ob 5 l1]⟩ (aP g3 (aP g4 aN)) ?_
     refine W_seq ?_
     refine Vrs hT [0] ⟨[(0, kU l0), (1, kH 0), (5, kI i5_2), (6, kU (l1.getD i5_2.toNat 0)), (25, kB (decide ((128 : UInt8) ≤ (l1.getD i5_2.toNat 0))))], [], [ob 5 l1]⟩ ?_
     refine Vi ((decide ((128 : UInt8) ≤ (l1.getD i5_2.toNat 0)))) (fun g78 => ?_) (fun g78 => ?_)
     ·replace h := bif_t h g78
      refine Vrs hT [] ⟨[(4, kB false)], [], []⟩ ?_
      refine Vc [] [] (rText_R false) (W_ret ?_)
      exact ⟨.inl rfl, by cases h; rfl⟩
     ·replace h := bif_f h g78
      refine W_skip ?_
      refine Vrs hT [0] ⟨[(0, kU l0), (1, kH 0), (5, kI i5_2), (6, kU (l1.getD i5_2.toNat 0)), (27, kB (l0 == 19))], [], [ob 5 l1]⟩ ?_
      refine Vi ((l0 == 19)) (fun g77 => ?_) (fun g77 => ?_)
      ·replace h := bif_t h g77
       refine W_seq ?_
       rcases Bool.eq_false_or_eq_true (decide ((97 : UInt8) ≤ (l1.getD i5_2.toNat 0))) with g5 | g5
       ·replace h := bif_t h g5
        rcases Bool.eq_false_or_eq_true (decide ((l1.getD i5_2.toNat 0) ≤ (122 : UInt8))) with g6 | g6
        ·replace h := bif_t h g6
         refine Vg hT fN [(2, true), (6, true)] [] [0] ⟨[(0, kU l0), (1, kH 0), (5, kI i5_2), (6, kU (l1.getD i5_2.toNat 0)), (7, kB true)], [], [ob 5 l1]⟩ (aP g5 (aP g6 aN)) ?_
         refine Vrs hT [0, 1] ⟨[(0, kU l0), (1, kH 0), (5, kI i5_2), (6, kU (l1.getD i5_2.toNat 0)), (7, kB true), (8, kH 1)], [], [ob 5 l1, ⟨.row, 5, 1, 12, .b [32, 39, 40, 41, 43, 44, 45, 46, 47, 58, 61, 63]⟩]⟩ ?_
         refine W_seq ?_
         refine Vrs hT [0, 1] ⟨[(0, kU l0), (1, kH 0), (5, kI i5_2), (6, kU (l1.getD i5_2.toNat 0)), (7, kB true), (8, kH 1), (9, kI 0)], [], [ob 5 l1, ⟨.row, 5, 1, 12, .b [32, 39, 40, 41, 43, 44, 45, 46, 47, 58, 61, 63]⟩]⟩ ?_
         refine W_block ?_
         refine Vc [] [0, 1] (rText_l2_E l0 l1 i5_2 0) (W_lp ((rText_l2_P n l0 l1 i5_2 (rText_l1 n l0 l1 fu_l1) r)) n ⟨_, rfl, h⟩ ?_)
         rintro fu_l2 _ ⟨i9_187, rfl, h⟩
         cases fu_l2 with
         | zero => cases h
         | succ fu_l2 =>
          refine ⟨fu_l2, rfl, ?_⟩
          rw [rText_l2] at h
          refine W_seq ?_
          refine Vrs hT [0, 1] ⟨[(0, kU l0), (1, kH 0), (5, kI i5_2), (6, kU (l1.getD i5_2.toNat 0)), (7, kB true), (8, kH 1), (9, kI i9_187), (54, kB (decide (i9_187 < (([32, 39, 40, 41, 43, 44, 45, 46, 47, 58, 61, 63].length : Nat) : Int))))], [], [ob 5 l1, nb 5 [32, 39, 40, 41, 43, 44, 45, 46, 47, 58, 61, 63]]⟩ ?_
          refine Vi ((decide (i9_187 < (([32, 39, 40, 41, 43, 44, 45, 46, 47, 58, 61, 63].length : Nat) : Int)))) (fun g8 => ?_) (fun g8 => ?_)
          ·replace h := bif_t h g8
           refine W_skip ?_
           refine W_seq ?_
           refine W_block ?_
           refine Vr hT [0, 1] ⟨[(0, kU l0), (1, kH 0), (5, kI i5_2), (6, kU (l1.getD i5_2.toNat 0)), (7, kB true), (8, kH 1), (9, kI i9_187)], [], [ob 5 l1, nb 5 [32, 39, 40, 41, 43, 44, 45, 46, 47, 58, 61, 63]]⟩ ?_
           obtain ⟨g7, h⟩ := gd_some h
           refine Vg hT fN [] [] [0, 1] (rText_l2_E l0 l1 i5_2 (i9_187 + 1)) (aP g7 aN) ?_
           exact ⟨_, rfl, h⟩
          ·replace h := bif_f h g8
           refine Vc [] [0] ⟨[(0, kU l0), (1, kH 0), (5, kI i5_2), (7, kB true)], [], [ob 5 l1]⟩ (W_exit ?_)
           refine Vrs hT [0] ⟨[(0, kU l0), (1, kH 0), (5, kI i5_2), (67, kB false)], [], [ob 5 l1]⟩ ?_
           refine Vi (false) (fun hb => by cases hb) (fun _ => ?_)
           refine Vc [] [0] (rText_j1_E l0 l1 i5_2) (W_skip ?_)
           exact ⟨rfl, h⟩
        ·replace h := bif_f h g6
         rcases Bool.eq_false_or_eq_true (decide ((65 : UInt8) ≤ (l1.getD i5_2.toNat 0))) with g9 | g9
         ·replace h := bif_t h g9
          rcases Bool.eq_false_or_eq_true (decide ((l1.getD i5_2.toNat 0) ≤ (90 : UInt8))) with g10 | g10
          ·replace h := bif_t h g10
           refine Vg hT fN [(2, true), (6, false), (9, true), (14, true)] [] [0] ⟨[(0, kU l0), (1, kH 0), (5, kI i5_2), (6, kU (l1.getD i5_2.toNat 0)), (7, kB true)], [], [ob 5 l1]⟩ (aP g5 (aP g6 (aP g9 (aP g10 aN)))) ?_
           refine Vrs hT [0, 1] ⟨[(0, kU l0), (1, kH 0), (5, kI i5_2), (6, kU (l1.getD i5_2.toNat 0)), (7, kB true), (8, kH 1)], [], [ob 5 l1, ⟨.row, 5, 1, 12, .b [32, 39, 40, 41, 43, 44, 45, 46, 47, 58, 61, 63]⟩]⟩ ?_
           refine W_seq ?_
           refine Vrs hT [0, 1] ⟨[(0, kU l0), (1, kH 0), (5, kI i5_2), (6, kU (l1.getD i5_2.toNat 0)), (7, kB true), (8, kH 1), (9, kI 0)], [], [ob 5 l1, ⟨.row, 5, 1, 12, .b [32, 39, 40, 41, 43, 44, 45, 46, 47, 58, 61, 63]⟩]⟩ ?_
           refine W_block ?_
           refine Vc [] [0, 1] (rText_l3_E l0 l1 i5_2 0) (W_lp ((rText_l3_P n l0 l1 i5_2 (rText_l1 n l0 l1 fu_l1) r)) n ⟨_, rfl, h⟩ ?_)
           rintro fu_l3 _ ⟨i9_188, rfl, h⟩
           cases fu_l3 with
           | zero => cases h
           | succ fu_l3 =>
            refine ⟨fu_l3, rfl, ?_⟩
            rw [rText_l3] at h
            refine W_seq ?_
            refine Vrs hT [0, 1] ⟨[(0, kU l0), (1, kH 0), (5, kI i5_2), (6, kU (l1.getD i5_2.toNat 0)), (7, kB true), (8, kH 1), (9, kI i9_188), (54, kB (decide (i9_188 < (([32, 39, 40, 41, 43, 44, 45, 46, 47, 58, 61, 63].length : Nat) : Int))))], [], [ob 5 l1, nb 5 [32, 39, 40, 41, 43, 44, 45, 46, 47, 58, 61, 63]]⟩ ?_
            refine Vi ((decide (i9_188 < (([32, 39, 40, 41, 43, 44, 45, 46, 47, 58, 61, 63].length : Nat) : Int)))) (fun g12 => ?_) (fun g12 => ?_)
            ·replace h := bif_t h g12
             refine W_skip ?_
             refine W_seq ?_
             refine W_block ?_
             refine Vr hT [0, 1] ⟨[(0, kU l0), (1, kH 0), (5, kI i5_2), (6, kU (l1.getD i5_2.toNat 0)), (7, kB true), (8, kH 1), (9, kI i9_188)], [], [ob 5 l1, nb 5 [32, 39, 40, 41, 43, 44, 45, 46, 47, 58, 61, 63]]⟩ ?_
             obtain ⟨g11, h⟩ := gd_some h
             refine Vg hT fN [] [] [0, 1] (rText_l3_E l0 l1 i5_2 (i9_188 + 1)) (aP g11 aN) ?_
             exact ⟨_, rfl, h⟩
            ·replace h := bif_f h g12
             refine Vc [] [0] ⟨[(0, kU l0), (1, kH 0), (5, kI i5_2), (7, kB true)], [], [ob 5 l1]⟩ (W_exit ?_)
             refine Vrs hT [0] ⟨[(0, kU l0), (1, kH 0), (5, kI i5_2), (67, kB false)], [], [ob 5 l1]⟩ ?_
             refine Vi (false) (fun hb => by cases hb) (fun _ => ?_)
             refine Vc [] [0] (rText_j1_E l0 l1 i5_2) (W_skip ?_)
             exact ⟨rfl, h⟩
          ·replace h := bif_f h g10
           rcases Bool.eq_false_or_eq_true (decide ((48 : UInt8) ≤ (l1.getD i5_2.toNat 0))) with g13 | g13
           ·replace h := bif_t h g13
            refine Vg hT fN [(2, true), (6, false), (9, true), (14, false), (17, true)] [] [0] ⟨[(0, kU l0), (1, kH 0), (5, kI i5_2), (6, kU (l1.getD i5_2.toNat 0)), (7, kB (decide ((l1.getD i5_2.toNat 0) ≤ (57 : UInt8))))], [], [ob 5 l1]⟩ (aP g5 (aP g6 (aP g9 (aP g10 (aP g13 aN))))) ?_
            refine Vrs hT [0, 1] ⟨[(0, kU l0), (1, kH 0), (5, kI i5_2), (6, kU (l1.getD i5_2.toNat 0)), (7, kB (decide ((l1.getD i5_2.toNat 0) ≤ (57 : UInt8)))), (8, kH 1)], [], [ob 5 l1, ⟨.row, 5, 1, 12, .b [32, 39, 40, 41, 43, 44, 45, 46, 47, 58, 61, 63]⟩]⟩ ?_
            refine W_seq ?_
            refine Vrs hT [0, 1] ⟨[(0, kU l0), (1, kH 0), (5, kI i5_2), (6, kU (l1.getD i5_2.toNat 0)), (7, kB (decide ((l1.getD i5_2.toNat 0) ≤ (57 : UInt8)))), (8, kH 1), (9, kI 0)], [], [ob 5 l1, ⟨.row, 5, 1, 12, .b [32, 39, 40, 41, 43, 44, 45, 46, 47, 58, 61, 63]⟩]⟩ ?_
            refine W_block ?_
            refine Vc [] [0, 1] (rText_l4_E l0 l1 i5_2 (decide ((l1.getD i5_2.toNat 0) ≤ (57 : UInt8))) 0) (W_lp ((rText_l4_P n l0 l1 i5_2 (rText_l1 n l0 l1 fu_l1) r)) n ⟨_, _, rfl, h⟩ ?_)
            rintro fu_l4 _ ⟨p7_136, i9_189, rfl, h⟩
            cases fu_l4 with
            | zero => cases h
            | succ fu_l4 =>
             refine ⟨fu_l4, rfl, ?_⟩
             rw [rText_l4] at h
             refine W_seq ?_
             refine Vrs hT [0, 1] ⟨[(0, kU l0), (1, kH 0), (5, kI i5_2), (6, kU (l1.getD i5_2.toNat 0)), (7, kB p7_136), (8, kH 1), (9, kI i9_189), (54, kB (decide (i9_189 < (([32, 39, 40, 41, 43, 44, 45, 46, 47, 58, 61, 63].length : Nat) : Int))))], [], [ob 5 l1, nb 5 [32, 39, 40, 41, 43, 44, 45, 46, 47, 58, 61, 63]]⟩ ?_
             refine Vi ((decide (i9_189 < (([32, 39, 40, 41, 43, 44, 45, 46, 47, 58, 61, 63].length : Nat) : Int)))) (fun g20 => ?_) (fun g20 => ?_)
             ·replace h := bif_t h g20
              refine Vc [] [0, 1] ⟨[(0, kU l0), (1, kH 0), (5, kI i5_2), (6, kU (l1.getD i5_2.toNat 0)), (7, kB p7_136), (8, kH 1), (9, kI i9_189)], [], [ob 5 l1, nb 5 [32, 39, 40, 41, 43, 44, 45, 46, 47, 58, 61, 63]]⟩ (W_skip ?_)
              refine W_seq ?_
              refine W_block ?_
              rcases Bool.eq_false_or_eq_true p7_136 with g14 | g14
              ·replace h := bif_t h g14
               refine Vg hT fN [(1, true)] [] [0, 1] ⟨[(0, kU l0), (1, kH 0), (5, kI i5_2), (6, kU (l1.getD i5_2.toNat 0)), (7, kB true), (8, kH 1), (9, kI i9_189)], [], [ob 5 l1, nb 5 [32, 39, 40, 41, 43, 44, 45, 46, 47, 58, 61, 63]]⟩ (aP g14 aN) ?_
               obtain ⟨g15, h⟩ := gd_some h
               refine Vg hT fN [] [] [0, 1] (rText_l4_E l0 l1 i5_2 true (i9_189 + 1)) (aP g15 aN) ?_
               exact ⟨_, _, rfl, h⟩
              ·replace h := bif_f h g14
               obtain ⟨g16, g17, h⟩ := gd2 h
               refine Vg hT fN [(1, false)] [] [0, 1] ⟨[(0, kU l0), (1, kH 0), (5, kI i5_2), (6, kU (l1.getD i5_2.toNat 0)), (7, kB ((l1.getD i5_2.toNat 0) == ([32, 39, 40, 41, 43, 44, 45, 46, 47, 58, 61, 63].getD i9_189.toNat 0))), (8, kH 1), (9, kI i9_189)], [], [ob 5 l1, nb 5 [32, 39, 40, 41, 43, 44, 45, 46, 47, 58, 61, 63]]⟩ (aP g14 (aP g16 (aP g17 aN))) ?_
               obtain ⟨g18, h⟩ := gd_some h
               refine Vg hT fN [] [] [0, 1] (rText_l4_E l0 l1 i5_2 ((l1.getD i5_2.toNat 0) == ([32, 39, 40, 41, 43, 44, 45, 46, 47, 58, 61, 63].getD i9_189.toNat 0)) (i9_189 + 1)) (aP g18 aN) ?_
               exact ⟨_, _, rfl, h⟩
             ·replace h := bif_f h g20
              refine Vc [] [0] ⟨[(0, kU l0), (1, kH 0), (5, kI i5_2), (7, kB p7_136)], [], [ob 5 l1]⟩ (W_exit ?_)
              refine Vrs hT [0] ⟨[(0, kU l0), (1, kH 0), (5, kI i5_2), (67, kB (!p7_136))], [], [ob 5 l1]⟩ ?_
              refine Vi ((!p7_136)) (fun g19 => ?_) (fun g19 => ?_)
              ·replace h := bif_t h g19
               refine Vrs hT [] ⟨[(4, kB false)], [], []⟩ ?_
               refine Vc [] [] (rText_R false) (W_ret ?_)
               exact ⟨.inl rfl, by cases h; rfl⟩
              ·replace h := bif_f h g19
               refine Vc [] [0] (rText_j1_E l0 l1 i5_2) (W_skip ?_)
               exact ⟨rfl, h⟩
           ·replace h := bif_f h g13
            refine Vg hT fN [(2, true), (6, false), (9, true), (14, false), (17, false)] [] [0] ⟨[(0, kU l0), (1, kH 0), (5, kI i5_2), (6, kU (l1.getD i5_2.toNat 0)), (7, kB false)], [], [ob 5 l1]⟩ (aP g5 (aP g6 (aP g9 (aP g10 (aP g13 aN))))) ?_
            refine Vrs hT [0, 1] ⟨[(0, kU l0), (1, kH 0), (5, kI i5_2), (6, kU (l1.getD i5_2.toNat 0)), (7, kB false), (8, kH 1)], [], [ob 5 l1, ⟨.row, 5, 1, 12, .b [32, 39, 40, 41, 43, 44, 45, 46, 47, 58, 61, 63]⟩]⟩ ?_
            refine W_seq ?_
            refine Vrs hT [0, 1] ⟨[(0, kU l0), (1, kH 0), (5, kI i5_2), (6, kU (l1.getD i5_2.toNat 0)), (7, kB false), (8, kH 1), (9, kI 0)], [], [ob 5 l1, ⟨.row, 5, 1, 12, .b [32, 39, 40, 41, 43, 44, 45, 46, 47, 58, 61, 63]⟩]⟩ ?_
            refine W_block ?_
            refine Vc [] [0, 1] (rText_l5_E l0 l1 i5_2 false 0) (W_lp ((rText_l5_P n l0 l1 i5_2 (rText_l1 n l0 l1 fu_l1) r)) n ⟨_, _, rfl, h⟩ ?_)
            rintro fu_l5 _ ⟨p7_137, i9_190, rfl, h⟩
            cases fu_l5 with
            | zero => cases h
            | succ fu_l5 =>
             refine ⟨fu_l5, rfl, ?_⟩
             rw [rText_l5] at h
             refine W_seq ?_
             refine Vrs hT [0, 1] ⟨[(0, kU l0), (1, kH 0), (5, kI i5_2), (6, kU (l1.getD i5_2.toNat 0)), (7, kB p7_137), (8, kH 1), (9, kI i9_190), (54, kB (decide (i9_190 < (([32, 39, 40, 41, 43, 44, 45, 46, 47, 58, 61, 63].length : Nat) : Int))))], [], [ob 5 l1, nb 5 [32, 39, 40, 41, 43, 44, 45, 46, 47, 58, 61, 63]]⟩ ?_
             refine Vi ((decide (i9_190 < (([32, 39, 40, 41, 43, 44, 45, 46, 47, 58, 61, 63].length : Nat) : Int)))) (fun g27 => ?_) (fun g27 => ?_)
             ·replace h := bif_t h g27
              refine Vc [] [0, 1] ⟨[(0, kU l0), (1, kH 0), (5, kI i5_2), (6, kU (l1.getD i5_2.toNat 0)), (7, kB p7_137), (8, kH 1), (9, kI i9_190)], [], [ob 5 l1, nb 5 [32, 39, 40, 41, 43, 44, 45, 46, 47, 58, 61, 63]]⟩ (W_skip ?_)
              refine W_seq ?_
              refine W_block ?_
              rcases Bool.eq_false_or_eq_true p7_137 with g21 | g21
              ·replace h := bif_t h g21
               refine Vg hT fN [(1, true)] [] [0, 1] ⟨[(0, kU l0), (1, kH 0), (5, kI i5_2), (6, kU (l1.getD i5_2.toNat 0)), (7, kB true), (8, kH 1), (9, kI i9_190)], [], [ob 5 l1, nb 5 [32, 39, 40, 41, 43, 44, 45, 46, 47, 58, 61, 63]]⟩ (aP g21 aN) ?_
               obtain ⟨g22, h⟩ := gd_some h
               refine Vg hT fN [] [] [0, 1] (rText_l5_E l0 l1 i5_2 true (i9_190 + 1)) (aP g22 aN) ?_
               exact ⟨_, _, rfl, h⟩
              ·replace h := bif_f h g21
               obtain ⟨g23, g24, h⟩ := gd2 h
               refine Vg hT fN [(1, false)] [] [0, 1] ⟨[(0, kU l0), (1, kH 0), (5, kI i5_2), (6, kU (l1.getD i5_2.toNat 0)), (7, kB ((l1.getD i5_2.toNat 0) == ([32, 39, 40, 41, 43, 44, 45, 46, 47, 58, 61, 63].getD i9_190.toNat 0))), (8, kH 1), (9, kI i9_190)], [], [ob 5 l1, nb 5 [32, 39, 40, 41, 43, 44, 45, 46, 47, 58, 61, 63]]⟩ (aP g21 (aP g23 (aP g24 aN))) ?_
               obtain ⟨g25, h⟩ := gd_some h
               refine Vg hT fN [] [] [0, 1] (rText_l5_E l0 l1 i5_2 ((l1.getD i5_2.toNat 0) == ([32, 39, 40, 41, 43, 44, 45, 46, 47, 58, 61, 63].getD i9_190.toNat 0)) (i9_190 + 1)) (aP g25 aN) ?_
               exact ⟨_, _, rfl, h⟩
             ·replace h := bif_f h g27
              refine Vc [] [0] ⟨[(0, kU l0), (1, kH 0), (5, kI i5_2), (7, kB p7_137)], [], [ob 5 l1]⟩ (W_exit ?_)
              refine Vrs hT [0] ⟨[(0, kU l0), (1, kH 0), (5, kI i5_2), (67, kB (!p7_137))], [], [ob 5 l1]⟩ ?_
              refine Vi ((!p7_137)) (fun g26 => ?_) (fun g26 => ?_)
              ·replace h := bif_t h g26
               refine Vrs hT [] ⟨[(4, kB false)], [], []⟩ ?_
               refine Vc [] [] (rText_R false) (W_ret ?_)
               exact ⟨.inl rfl, by cases h; rfl⟩
              ·replace h := bif_f h g26
               refine Vc [] [0] (rText_j1_E l0 l1 i5_2) (W_skip ?_)
               exact ⟨rfl, h⟩
         ·replace h := bif_f h g9
          rcases Bool.eq_false_or_eq_true (decide ((48 : UInt8) ≤ (l1.getD i5_2.toNat 0))) with g28 | g28
          ·replace h := bif_t h g28
           refine Vg hT fN [(2, true), (6, false), (9, false), (17, true)] [] [0] ⟨[(0, kU l0), (1, kH 0), (5, kI i5_2), (6, kU (l1.getD i5_2.toNat 0)), (7, kB (decide ((l1.getD i5_2.toNat 0) ≤ (57 : UInt8))))], [], [ob 5 l1]⟩ (aP g5 (aP g6 (aP g9 (aP g28 aN)))) ?_
           refine Vrs hT [0, 1] ⟨[(0, kU l0), (1, kH 0), (5, kI i5_2), (6, kU (l1.getD i5_2.toNat 0)), (7, kB (decide ((l1.getD i5_2.toNat 0) ≤ (57 : UInt8)))), (8, kH 1)], [], [ob 5 l1, ⟨.row, 5, 1, 12, .b [32, 39, 40, 41, 43, 44, 45, 46, 47, 58, 61, 63]⟩]⟩ ?_
           refine W_seq ?_
           refine Vrs hT [0, 1] ⟨[(0, kU l0), (1, kH 0), (5, kI i5_2), (6, kU (l1.getD i5_2.toNat 0)), (7, kB (decide ((l1.getD i5_2.toNat 0) ≤ (57 : UInt8)))), (8, kH 1), (9, kI 0)], [], [ob 5 l1, ⟨.row, 5, 1, 12, .b [32, 39, 40, 41, 43, 44, 45, 46, 47, 58, 61, 63]⟩]⟩ ?_
           refine W_block ?_
           refine Vc [] [0, 1] (rText_l6_E l0 l1 i5_2 (decide ((l1.getD i5_2.toNat 0) ≤ (57 : UInt8))) 0) (W_lp ((rText_l6_P n l0 l1 i5_2 (rText_l1 n l0 l1 fu_l1) r)) n ⟨_, _, rfl, h⟩ ?_)
           rintro fu_l6 _ ⟨p7_138, i9_191, rfl, h⟩
           cases fu_l6 with
           | zero => cases h
           | succ fu_l6 =>
            refine ⟨fu_l6, rfl, ?_⟩
            rw [rText_l6] at h
            refine W_seq ?_
            refine Vrs hT [0, 1] ⟨[(0, kU l0), (1, kH 0), (5, kI i5_2), (6, kU (l1.getD i5_2.toNat 0)), (7, kB p7_138), (8, kH 1), (9, kI i9_191), (54, kB (decide (i9_191 < (([32, 39, 40, 41, 43, 44, 45, 46, 47, 58, 61, 63].length : Nat) : Int))))], [], [ob 5 l1, nb 5 [32, 39, 40, 41, 43, 44, 45, 46, 47, 58, 61, 63]]⟩ ?_
            refine Vi ((decide (i9_191 < (([32, 39, 40, 41, 43, 44, 45, 46, 47, 58, 61, 63].length : Nat) : Int)))) (fun g35 => ?_) (fun g35 => ?_)
            ·replace h := bif_t h g35
             refine Vc [] [0, 1] ⟨[(0, kU l0), (1, kH 0), (5, kI i5_2), (6, kU (l1.getD i5_2.toNat 0)), (7, kB p7_138), (8, kH 1), (9, kI i9_191)], [], [ob 5 l1, nb 5 [32, 39, 40, 41, 43, 44, 45, 46, 47, 58, 61, 63]]⟩ (W_skip ?_)
             refine W_seq ?_
             refine W_block ?_
             rcases Bool.eq_false_or_eq_true p7_138 with g29 | g29
             ·replace h := bif_t h g29
              refine Vg hT fN [(1, true)] [] [0, 1] ⟨[(0, kU l0), (1, kH 0), (5, kI i5_2), (6, kU (l1.getD i5_2.toNat 0)), (7, kB true), (8, kH 1), (9, kI i9_191)], [], [ob 5 l1, nb 5 [32, 39, 40, 41, 43, 44, 45, 46, 47, 58, 61, 63]]⟩ (aP g29 aN) ?_
              obtain ⟨g30, h⟩ := gd_some h
              refine Vg hT fN [] [] [0, 1] (rText_l6_E l0 l1 i5_2 true (i9_191 + 1)) (aP g30 aN) ?_
              exact ⟨_, _, rfl, h⟩
             ·replace h := bif_f h g29
              obtain ⟨g31, g32, h⟩ := gd2 h
              refine Vg hT fN [(1, false)] [] [0, 1] ⟨[(0, kU l0), (1, kH 0), (5, kI i5_2), (6, kU (l1.getD i5_2.toNat 0)), (7, kB ((l1.getD i5_2.toNat 0) == ([32, 39, 40, 41, 43, 44, 45, 46, 47, 58, 61, 63].getD i9_191.toNat 0))), (8, kH 1), (9, kI i9_191)], [], [ob 5 l1, nb 5 [32, 39, 40, 41, 43, 44, 45, 46, 47, 58, 61, 63]]⟩ (aP g29 (aP g31 (aP g32 aN))) ?_
              obtain ⟨g33, h⟩ := gd_some h
              refine Vg hT fN [] [] [0, 1] (rText_l6_E l0 l1 i5_2 ((l1.getD i5_2.toNat 0) == ([32, 39, 40, 41, 43, 44, 45, 46, 47, 58, 61, 63].getD i9_191.toNat 0)) (i9_191 + 1)) (aP g33 aN) ?_
              exact ⟨_, _, rfl, h⟩
            ·replace h := bif_f h g35
             refine Vc [] [0] ⟨[(0, kU l0), (1, kH 0), (5, kI i5_2), (7, kB p7_138)], [], [ob 5 l1]⟩ (W_exit ?_)
             refine Vrs hT [0] ⟨[(0, kU l0), (1, kH 0), (5, kI i5_2), (67, kB (!p7_138))], [], [ob 5 l1]⟩ ?_
             refine Vi ((!p7_138)) (fun g34 => ?_) (fun g34 => ?_)
             ·replace h := bif_t h g34
              refine Vrs hT [] ⟨[(4, kB false)], [], []⟩ ?_
              refine Vc [] [] (rText_R false) (W_ret ?_)
              exact ⟨.inl rfl, by cases h; rfl⟩
             ·replace h := bif_f h g34
              refine Vc [] [0] (rText_j1_E l0 l1 i5_2) (W_skip ?_)
              exact ⟨rfl, h⟩
          ·replace h := bif_f h g28
           refine Vg hT fN [(2, true), (6, false), (9, false), (17, false)] [] [0] ⟨[(0, kU l0), (1, kH 0), (5, kI i5_2), (6, kU (l1.getD i5_2.toNat 0)), (7, kB false)], [], [ob 5 l1]⟩ (aP g5 (aP g6 (aP g9 (aP g28 aN)))) ?_
           refine Vrs hT [0, 1] ⟨[(0, kU l0), (1, kH 0), (5, kI i5_2), (6, kU (l1.getD i5_2.toNat 0)), (7, kB false), (8, kH 1)], [], [ob 5 l1, ⟨.row, 5, 1, 12, .b [32, 39, 40, 41, 43, 44, 45, 46, 47, 58, 61, 63]⟩]⟩ ?_
           refine W_seq ?_
           refine Vrs hT [0, 1] ⟨[(0, kU l0), (1, kH 0), (5, kI i5_2), (6, kU (l1.getD i5_2.toNat 0)), (7, kB false), (8, kH 1), (9, kI 0)], [], [ob 5 l1, ⟨.row, 5, 1, 12, .b [32, 39, 40, 41, 43, 44, 45, 46, 47, 58, 61, 63]⟩]⟩ ?_
           refine W_block ?_
           refine Vc [] [0, 1] (rText_l7_E l0 l1 i5_2 false 0) (W_lp ((rText_l7_P n l0 l1 i5_2 (rText_l1 n l0 l1 fu_l1) r)) n ⟨_, _, rfl, h⟩ ?_)
           rintro fu_l7 _ ⟨p7_139, i9_192, rfl, h⟩
           cases fu_l7 with
           | zero => cases h
           | succ fu_l7 =>
            refine ⟨fu_l7, rfl, ?_⟩
            rw [rText_l7] at h
            refine W_seq ?_
            refine Vrs hT [0, 1] ⟨[(0, kU l0), (1, kH 0), (5, kI i5_2), (6, kU (l1.getD i5_2.toNat 0)), (7, kB p7_139), (8, kH 1), (9, kI i9_192), (54, kB (decide (i9_192 < (([32, 39, 40, 41, 43, 44, 45, 46, 47, 58, 61, 63].length : Nat) : Int))))], [], [ob 5 l1, nb 5 [32, 39, 40, 41, 43, 44, 45, 46, 47, 58, 61, 63]]⟩ ?_
            refine Vi ((decide (i9_192 < (([32, 39, 40, 41, 43, 44, 45, 46, 47, 58, 61, 63].length : Nat) : Int)))) (fun g42 => ?_) (fun g42 => ?_)
            ·replace h := bif_t h g42
             refine Vc [] [0, 1] ⟨[(0, kU l0), (1, kH 0), (5, kI i5_2), (6, kU (l1.getD i5_2.toNat 0)), (7, kB p7_139), (8, kH 1), (9, kI i9_192)], [], [ob 5 l1, nb 5 [32, 39, 40, 41, 43, 44, 45, 46, 47, 58, 61, 63]]⟩ (W_skip ?_)
             refine W_seq ?_
             refine W_block ?_
             rcases Bool.eq_false_or_eq_true p7_139 with g36 | g36
             ·replace h := bif_t h g36
              refine Vg hT fN [(1, true)] [] [0, 1] ⟨[(0, kU l0), (1, kH 0), (5, kI i5_2), (6, kU (l1.getD i5_2.toNat 0)), (7, kB true), (8, kH 1), (9, kI i9_192)], [], [ob 5 l1, nb 5 [32, 39, 40, 41, 43, 44, 45, 46, 47, 58, 61, 63]]⟩ (aP g36 aN) ?_
              obtain ⟨g37, h⟩ := gd_some h
              refine Vg hT fN [] [] [0, 1] (rText_l7_E l0 l1 i5_2 true (i9_192 + 1)) (aP g37 aN) ?_
              exact ⟨_, _, rfl, h⟩
             ·replace h := bif_f h g36
              obtain ⟨g38, g39, h⟩ := gd2 h
              refine Vg hT fN [(1, false)] [] [0, 1] ⟨[(0, kU l0), (1, kH 0), (5, kI i5_2), (6, kU (l1.getD i5_2.toNat 0)), (7, kB ((l1.getD i5_2.toNat 0) == ([32, 39, 40, 41, 43, 44, 45, 46, 47, 58, 61, 63].getD i9_192.toNat 0))), (8, kH 1), (9, kI i9_192)], [], [ob 5 l1, nb 5 [32, 39, 40, 41, 43, 44, 45, 46, 47, 58, 61, 63]]⟩ (aP g36 (aP g38 (aP g39 aN))) ?_
              obtain ⟨g40, h⟩ := gd_some h
              refine Vg hT fN [] [] [0, 1] (rText_l7_E l0 l1 i5_2 ((l1.getD i5_2.toNat 0) == ([32, 39, 40, 41, 43, 44, 45, 46, 47, 58, 61, 63].getD i9_192.toNat 0)) (i9_192 + 1)) (aP g40 aN) ?_
              exact ⟨_, _, rfl, h⟩
            ·replace h := bif_f h g42
             refine Vc [] [0] ⟨[(0, kU l0), (1, kH 0), (5, kI i5_2), (7, kB p7_139)], [], [ob 5 l1]⟩ (W_exit ?_)
             refine Vrs hT [0] ⟨[(0, kU l0), (1, kH 0), (5, kI i5_2), (67, kB (!p7_139))], [], [ob 5 l1]⟩ ?_
             refine Vi ((!p7_139)) (fun g41 => ?_) (fun g41 => ?_)
             ·replace h := bif_t h g41
              refine Vrs hT [] ⟨[(4, kB false)], [], []⟩ ?_
              refine Vc [] [] (rText_R false) (W_ret ?_)
              exact ⟨.inl rfl, by cases h; rfl⟩
             ·replace h := bif_f h g41
              refine Vc [] [0] (rText_j1_E l0 l1 i5_2) (W_skip ?_)
              exact ⟨rfl, h⟩
       ·replace h := bif_f h g5
        rcases Bool.eq_false_or_eq_true (decide ((65 : UInt8) ≤ (l1.getD i5_2.toNat 0))) with g43 | g43
        ·replace h := bif_t h g43
         rcases Bool.eq_false_or_eq_true (decide ((l1.getD i5_2.toNat 0) ≤ (90 : UInt8))) with g44 | g44
         ·replace h := bif_t h g44
          refine Vg hT fN [(2, false), (9, true), (14, true)] [] [0] ⟨[(0, kU l0), (1, kH 0), (5, kI i5_2), (6, kU (l1.getD i5_2.toNat 0)), (7, kB true)], [], [ob 5 l1]⟩ (aP g5 (aP g43 (aP g44 aN))) ?_
          refine Vrs hT [0, 1] ⟨[(0, kU l0), (1, kH 0), (5, kI i5_2), (6, kU (l1.getD i5_2.toNat 0)), (7, kB true), (8, kH 1)], [], [ob 5 l1, ⟨.row, 5, 1, 12, .b [32, 39, 40, 41, 43, 44, 45, 46, 47, 58, 61, 63]⟩]⟩ ?_
          refine W_seq ?_
          refine Vrs hT [0, 1] ⟨[(0, kU l0), (1, kH 0), (5, kI i5_2), (6, kU (l1.getD i5_2.toNat 0)), (7, kB true), (8, kH 1), (9, kI 0)], [], [ob 5 l1, ⟨.row, 5, 1, 12, .b [32, 39, 40, 41, 43, 44, 45, 46, 47, 58, 61, 63]⟩]⟩ ?_
          refine W_block ?_
          refine Vc [] [0, 1] (rText_l8_E l0 l1 i5_2 0) (W_lp ((rText_l8_P n l0 l1 i5_2 (rText_l1 n l0 l1 fu_l1) r)) n ⟨_, rfl, h⟩ ?_)
          rintro fu_l8 _ ⟨i9_193, rfl, h⟩
          cases fu_l8 with
          | zero => cases h
          | succ fu_l8 =>
           refine ⟨fu_l8, rfl, ?_⟩
           rw [rText_l8] at h
           refine W_seq ?_
           refine Vrs hT [0, 1] ⟨[(0, kU l0), (1, kH 0), (5, kI i5_2), (6, kU (l1.getD i5_2.toNat 0)), (7, kB true), (8, kH 1), (9, kI i9_193), (54, kB (decide (i9_193 < (([32, 39, 40, 41, 43, 44, 45, 46, 47, 58, 61, 63].length : Nat) : Int))))], [], [ob 5 l1, nb 5 [32, 39, 40, 41, 43, 44, 45, 46, 47, 58, 61, 63]]⟩ ?_
           refine Vi ((decide (i9_193 < (([32, 39, 40, 41, 43, 44, 45, 46, 47, 58, 61, 63].length : Nat) : Int)))) (fun g46 => ?_) (fun g46 => ?_)
           ·replace h := bif_t h g46
            refine W_skip ?_
            refine W_seq ?_
            refine W_block ?_
            refine Vr hT [0, 1] ⟨[(0, kU l0), (1, kH 0), (5, kI i5_2), (6, kU (l1.getD i5_2.toNat 0)), (7, kB true), (8, kH 1), (9, kI i9_193)], [], [ob 5 l1, nb 5 [32, 39, 40, 41, 43, 44, 45, 46, 47, 58, 61, 63]]⟩ ?_
            obtain ⟨g45, h⟩ := gd_some h
            refine Vg hT fN [] [] [0, 1] (rText_l8_E l0 l1 i5_2 (i9_193 + 1)) (aP g45 aN) ?_
            exact ⟨_, rfl, h⟩
           ·replace h := bif_f h g46
            refine Vc [] [0] ⟨[(0, kU l0), (1, kH 0), (5, kI i5_2), (7, kB true)], [], [ob 5 l1]⟩ (W_exit ?_)
            refine Vrs hT [0] ⟨[(0, kU l0), (1, kH 0), (5, kI i5_2), (67, kB false)], [], [ob 5 l1]⟩ ?_
            refine Vi (false) (fun hb => by cases hb) (fun _ => ?_)
            refine Vc [] [0] (rText_j1_E l0 l1 i5_2) (W_skip ?_)
            exact ⟨rfl, h⟩
         ·replace h := bif_f h g44
          rcases Bool.eq_false_or_eq_true (decide ((48 : UInt8) ≤ (l1.getD i5_2.toNat 0))) with g47 | g47
          ·replace h := bif_t h g47
           refine Vg hT fN [(2, false), (9, true), (14, false), (17, true)] [] [0] ⟨[(0, kU l0), (1, kH 0), (5, kI i5_2), (6, kU (l1.getD i5_2.toNat 0)), (7, kB (decide ((l1.getD i5_2.toNat 0) ≤ (57 : UInt8))))], [], [ob 5 l1]⟩ (aP g5 (aP g43 (aP g44 (aP g47 aN)))) ?_
           refine Vrs hT [0, 1] ⟨[(0, kU l0), (1, kH 0), (5, kI i5_2), (6, kU (l1.getD i5_2.toNat 0)), (7, kB (decide ((l1.getD i5_2.toNat 0) ≤ (57 : UInt8)))), (8, kH 1)], [], [ob 5 l1, ⟨.row, 5, 1, 12, .b [32, 39, 40, 41, 43, 44, 45, 46, 47, 58, 61, 63]⟩]⟩ ?_
           refine W_seq ?_
           refine Vrs hT [0, 1] ⟨[(0, kU l0), (1, kH 0), (5, kI i5_2), (6, kU (l1.getD i5_2.toNat 0)), (7, kB (decide ((l1.getD i5_2.toNat 0) ≤ (57 : UInt8)))), (8, kH 1), (9, kI 0)], [], [ob 5 l1, ⟨.row, 5, 1, 12, .b [32, 39, 40, 41, 43, 44, 45, 46, 47, 58, 61, 63]⟩]⟩ ?_
           refine W_block ?_
           refine Vc [] [0, 1] (rText_l9_E l0 l1 i5_2 (decide ((l1.getD i5_2.toNat 0) ≤ (57 : UInt8))) 0) (W_lp ((rText_l9_P n l0 l1 i5_2 (rText_l1 n l0 l1 fu_l1) r)) n ⟨_, _, rfl, h⟩ ?_)
           rintro fu_l9 _ ⟨p7_140, i9_194, rfl, h⟩
           cases fu_l9 with
           | zero => cases h
           | succ fu_l9 =>
            refine ⟨fu_l9, rfl, ?_⟩
            rw [rText_l9] at h
            refine W_seq ?_
            refine Vrs hT [0, 1] ⟨[(0, kU l0), (1, kH 0), (5, kI i5_2), (6, kU (l1.getD i5_2.toNat 0)), (7, kB p7_140), (8, kH 1), (9, kI i9_194), (54, kB (decide (i9_194 < (([32, 39, 40, 41, 43, 44, 45, 46, 47, 58, 61, 63].length : Nat) : Int))))], [], [ob 5 l1, nb 5 [32, 39, 40, 41, 43, 44, 45, 46, 47, 58, 61, 63]]⟩ ?_
            refine Vi ((decide (i9_194 < (([32, 39, 40, 41, 43, 44, 45, 46, 47, 58, 61, 63].length : Nat) : Int)))) (fun g54 => ?_) (fun g54 => ?_)
            ·replace h := bif_t h g54
             refine Vc [] [0, 1] ⟨[(0, kU l0), (1, kH 0), (5, kI i5_2), (6, kU (l1.getD i5_2.toNat 0)), (7, kB p7_140), (8, kH 1), (9, kI i9_194)], [], [ob 5 l1, nb 5 [32, 39, 40, 41, 43, 44, 45, 46, 47, 58, 61, 63]]⟩ (W_skip ?_)
             refine W_seq ?_
             refine W_block ?_
             rcases Bool.eq_false_or_eq_true p7_140 with g48 | g48
             ·replace h := bif_t h g48
              refine Vg hT fN [(1, true)] [] [0, 1] ⟨[(0, kU l0), (1, kH 0), (5, kI i5_2), (6, kU (l1.getD i5_2.toNat 0)), (7, kB true), (8, kH 1), (9, kI i9_194)], [], [ob 5 l1, nb 5 [32, 39, 40, 41, 43, 44, 45, 46, 47, 58, 61, 63]]⟩ (aP g48 aN) ?_
              obtain ⟨g49, h⟩ := gd_some h
              refine Vg hT fN [] [] [0, 1] (rText_l9_E l0 l1 i5_2 true (i9_194 + 1)) (aP g49 aN) ?_
              exact ⟨_, _, rfl, h⟩
             ·replace h := bif_f h g48
              obtain ⟨g50, g51, h⟩ := gd2 h
              refine Vg hT fN [(1, false)] [] [0, 1] ⟨[(0, kU l0), (1, kH 0), (5, kI i5_2), (6, kU (l1.getD i5_2.toNat 0)), (7, kB ((l1.getD i5_2.toNat 0) == ([32, 39, 40, 41, 43, 44, 45, 46, 47, 58, 61, 63].getD i9_194.toNat 0))), (8, kH 1), (9, kI i9_194)], [], [ob 5 l1, nb 5 [32, 39, 40, 41, 43, 44, 45, 46, 47, 58, 61, 63]]⟩ (aP g48 (aP g50 (aP g51 aN))) ?_
              obtain ⟨g52, h⟩ := gd_some h
              refine Vg hT fN [] [] [0, 1] (rText_l9_E l0 l1 i5_2 ((l1.getD i5_2.toNat 0) == ([32, 39, 40, 41, 43, 44, 45, 46, 47, 58, 61, 63].getD i9_194.toNat 0)) (i9_194 + 1)) (aP g52 aN) ?_
              exact ⟨_, _, rfl, h⟩
            ·replace h := bif_f h g54
             refine Vc [] [0] ⟨[(0, kU l0), (1, kH 0), (5, kI i5_2), (7, kB p7_140)], [], [ob 5 l1]⟩ (W_exit ?_)
             refine Vrs hT [0] ⟨[(0, kU l0), (1, kH 0), (5, kI i5_2), (67, kB (!p7_140))], [], [ob 5 l1]⟩ ?_
             refine Vi ((!p7_140)) (fun g53 => ?_) (fun g53 => ?_)
             ·replace h := bif_t h g53
              refine Vrs hT [] ⟨[(4, kB false)], [], []⟩ ?_
              refine Vc [] [] (rText_R false) (W_ret ?_)
              exact ⟨.inl rfl, by cases h; rfl⟩
             ·replace h := bif_f h g53
              refine Vc [] [0] (rText_j1_E l0 l1 i5_2) (W_skip ?_)
              exact ⟨rfl, h⟩
          ·replace h := bif_f h g47
           refine Vg hT fN [(2, false), (9, true), (14, false), (17, false)] [] [0] ⟨[(0, kU l0), (1, kH 0), (5, kI i5_2), (6, kU (l1.getD i5_2.toNat 0)), (7, kB false)], [], [ob 5 l1]⟩ (aP g5 (aP g43 (aP g44 (aP g47 aN)))) ?_
           refine Vrs hT [0, 1] ⟨[(0, kU l0), (1, kH 0), (5, kI i5_2), (6, kU (l1.getD i5_2.toNat 0)), (7, kB false), (8, kH 1)], [], [ob 5 l1, ⟨.row, 5, 1, 12, .b [32, 39, 40, 41, 43, 44, 45, 46, 47, 58, 61, 63]⟩]⟩ ?_
           refine W_seq ?_
           refine Vrs hT [0, 1] ⟨[(0, kU l0), (1, kH 0), (5, kI i5_2), (6, kU (l1.getD i5_2.toNat 0)), (7, kB false), (8, kH 1), (9, kI 0)], [], [ob 5 l1, ⟨.row, 5, 1, 12, .b [32, 39, 40, 41, 43, 44, 45, 46, 47, 58, 61, 63]⟩]⟩ ?_
           refine W_block ?_
           refine Vc [] [0, 1] (rText_l10_E l0 l1 i5_2 false 0) (W_lp ((rText_l10_P n l0 l1 i5_2 (rText_l1 n l0 l1 fu_l1) r)) n ⟨_, _, rfl, h⟩ ?_)
           rintro fu_l10 _ ⟨p7_141, i9_195, rfl, h⟩
           cases fu_l10 with
           | zero => cases h
           | succ fu_l10 =>
            refine ⟨fu_l10, rfl, ?_⟩
            rw [rText_l10] at h
            refine W_seq ?_
            refine Vrs hT [0, 1] ⟨[(0, kU l0), (1, kH 0), (5, kI i5_2), (6, kU (l1.getD i5_2.toNat 0)), (7, kB p7_141), (8, kH 1), (9, kI i9_195), (54, kB (decide (i9_195 < (([32, 39, 40, 41, 43, 44, 45, 46, 47, 58, 61, 63].length : Nat) : Int))))], [], [ob 5 l1, nb 5 [32, 39, 40, 41, 43, 44, 45, 46, 47, 58, 61, 63]]⟩ ?_
            refine Vi ((decide (i9_195 < (([32, 39, 40, 41, 43, 44, 45, 46, 47, 58, 61, 63].length : Nat) : Int)))) (fun g61 => ?_) (fun g61 => ?_)
            ·replace h := bif_t h g61
             refine Vc [] [0, 1] ⟨[(0, kU l0), (1, kH 0), (5, kI i5_2), (6, kU (l1.getD i5_2.toNat 0)), (7, kB p7_141), (8, kH 1), (9, kI i9_195)], [], [ob 5 l1, nb 5 [32, 39, 40, 41, 43, 44, 45, 46, 47, 58, 61, 63]]⟩ (W_skip ?_)
             refine W_seq ?_
             refine W_block ?_
             rcases Bool.eq_false_or_eq_true p7_141 with g55 | g55
             ·replace h := bif_t h g55
              refine Vg hT fN [(1, true)] [] [0, 1] ⟨[(0, kU l0), (1, kH 0), (5, kI i5_2), (6, kU (l1.getD i5_2.toNat 0)), (7, kB true), (8, kH 1), (9, kI i9_195)], [], [ob 5 l1, nb 5 [32, 39, 40, 41, 43, 44, 45, 46, 47, 58, 61, 63]]⟩ (aP g55 aN) ?_
              obtain ⟨g56, h⟩ := gd_some h
              refine Vg hT fN [] [] [0, 1] (rText_l10_E l0 l1 i5_2 true (i9_195 + 1)) (aP g56 aN) ?_
              exact ⟨_, _, rfl, h⟩
             ·replace h := bif_f h g55
              obtain ⟨g57, g58, h⟩ := gd2 h
              refine Vg hT fN [(1, false)] [] [0, 1] ⟨[(0, kU l0), (1, kH 0), (5, kI i5_2), (6, kU (l1.getD i5_2.toNat 0)), (7, kB ((l1.getD i5_2.toNat 0) == ([32, 39, 40, 41, 43, 44, 45, 46, 47, 58, 61, 63].getD i9_195.toNat 0))), (8, kH 1), (9, kI i9_195)], [], [ob 5 l1, nb 5 [32, 39, 40, 41, 43, 44, 45, 46, 47, 58, 61, 63]]⟩ (aP g55 (aP g57 (aP g58 aN))) ?_
              obtain ⟨g59, h⟩ := gd_some h
              refine Vg hT fN [] [] [0, 1] (rText_l10_E l0 l1 i5_2 ((l1.getD i5_2.toNat 0) == ([32, 39, 40, 41, 43, 44, 45, 46, 47, 58, 61, 63].getD i9_195.toNat 0)) (i9_195 + 1)) (aP g59 aN) ?_
              exact ⟨_, _, rfl, h⟩
            ·replace h := bif_f h g61
             refine Vc [] [0] ⟨[(0, kU l0), (1, kH 0), (5, kI i5_2), (7, kB p7_141)], [], [ob 5 l1]⟩ (W_exit ?_)
             refine Vrs hT [0] ⟨[(0, kU l0), (1, kH 0), (5, kI i5_2), (67, kB (!p7_141))], [], [ob 5 l1]⟩ ?_
             refine Vi ((!p7_141)) (fun g60 => ?_) (fun g60 => ?_)
             ·replace h := bif_t h g60
              refine Vrs hT [] ⟨[(4, kB false)], [], []⟩ ?_
              refine Vc [] [] (rText_R false) (W_ret ?_)
              exact ⟨.inl rfl, by cases h; rfl⟩
             ·replace h := bif_f h g60
              refine Vc [] [0] (rText_j1_E l0 l1 i5_2) (W_skip ?_)
              exact ⟨rfl, h⟩
        ·replace h := bif_f h g43
         rcases Bool.eq_false_or_eq_true (decide ((48 : UInt8) ≤ (l1.getD i5_2.toNat 0))) with g62 | g62
         ·replace h := bif_t h g62
          refine Vg hT fN [(2, false), (9, false), (17, true)] [] [0] ⟨[(0, kU l0), (1, kH 0), (5, kI i5_2), (6, kU (l1.getD i5_2.toNat 0)), (7, kB (decide ((l1.getD i5_2.toNat 0) ≤ (57 : UInt8))))], [], [ob 5 l1]⟩ (aP g5 (aP g43 (aP g62 aN))) ?_
          refine Vrs hT [0, 1] ⟨[(0, kU l0), (1, kH 0), (5, kI i5_2), (6, kU (l1.getD i5_2.toNat 0)), (7, kB (decide ((l1.getD i5_2.toNat 0) ≤ (57 : UInt8)))), (8, kH 1)], [], [ob 5 l1, ⟨.row, 5, 1, 12, .b [32, 39, 40, 41, 43, 44, 45, 46, 47, 58, 61, 63]⟩]⟩ ?_
          refine W_seq ?_
          refine Vrs hT [0, 1] ⟨[(0, kU l0), (1, kH 0), (5, kI i5_2), (6, kU (l1.getD i5_2.toNat 0)), (7, kB (decide ((l1.getD i5_2.toNat 0) ≤ (57 : UInt8)))), (8, kH 1), (9, kI 0)], [], [ob 5 l1, ⟨.row, 5, 1, 12, .b [32, 39, 40, 41, 43, 44, 45, 46, 47, 58, 61, 63]⟩]⟩ ?_
          refine W_block ?_
          refine Vc [] [0, 1] (rText_l11_E l0 l1 i5_2 (decide ((l1.getD i5_2.toNat 0) ≤ (57 : UInt8))) 0) (W_lp ((rText_l11_P n l0 l1 i5_2 (rText_l1 n l0 l1 fu_l1) r)) n ⟨_, _, rfl, h⟩ ?_)
          rintro fu_l11 _ ⟨p7_142, i9_196, rfl, h⟩
          cases fu_l11 with
          | zero => cases h
          | succ fu_l11 =>
           refine ⟨fu_l11, rfl, ?_⟩
           rw [rText_l11] at h
           refine W_seq ?_
           refine Vrs hT [0, 1] ⟨[(0, kU l0), (1, kH 0), (5, kI i5_2), (6, kU (l1.getD i5_2.toNat 0)), (7, kB p7_142), (8, kH 1), (9, kI i9_196), (54, kB (decide (i9_196 < (([32, 39, 40, 41, 43, 44, 45, 46, 47, 58, 61, 63].length : Nat) : Int))))], [], [ob 5 l1, nb 5 [32, 39, 40, 41, 43, 44, 45, 46, 47, 58, 61, 63]]⟩ ?_
           refine Vi ((decide (i9_196 < (([32, 39, 40, 41, 43, 44, 45, 46, 47, 58, 61, 63].length : Nat) : Int)))) (fun g69 => ?_) (fun g69 => ?_)
           ·replace h := bif_t h g69
            refine Vc [] [0, 1] ⟨[(0, kU l0), (1, kH 0), (5, kI i5_2), (6, kU (l1.getD i5_2.toNat 0)), (7, kB p7_142), (8, kH 1), (9, kI i9_196)], [], [ob 5 l1, nb 5 [32, 39, 40, 41, 43, 44, 45, 46, 47, 58, 61, 63]]⟩ (W_skip ?_)
            refine W_seq ?_
            refine W_block ?_
            rcases Bool.eq_false_or_eq_true p7_142 with g63 | g63
            ·replace h := bif_t h g63
             refine Vg hT fN [(1, true)] [] [0, 1] ⟨[(0, kU l0), (1, kH 0), (5, kI i5_2), (6, kU (l1.getD i5_2.toNat 0)), (7, kB true), (8, kH 1), (9, kI i9_196)], [], [ob 5 l1, nb 5 [32, 39, 40, 41, 43, 44, 45, 46, 47, 58, 61, 63]]⟩ (aP g63 aN) ?_
             obtain ⟨g64, h⟩ := gd_some h
             refine Vg hT fN [] [] [0, 1] (rText_l11_E l0 l1 i5_2 true (i9_196 + 1)) (aP g64 aN) ?_
             exact ⟨_, _, rfl, h⟩
            ·replace h := bif_f h g63
             obtain ⟨g65, g66, h⟩ := gd2 h
             refine Vg hT fN [(1, false)] [] [0, 1] ⟨[(0, kU l0), (1, kH 0), (5, kI i5_2), (6, kU (l1.getD i5_2.toNat 0)), (7, kB ((l1.getD i5_2.toNat 0) == ([32, 39, 40, 41, 43, 44, 45, 46, 47, 58, 61, 63].getD i9_196.toNat 0))), (8, kH 1), (9, kI i9_196)], [], [ob 5 l1, nb 5 [32, 39, 40, 41, 43, 44, 45, 46, 47, 58, 61, 63]]⟩ (aP g63 (aP g65 (aP g66 aN))) ?_
             obtain ⟨g67, h⟩ := gd_some h
             refine Vg hT fN [] [] [0, 1] (rText_l11_E l0 l1 i5_2 ((l1.getD i5_2.toNat 0) == ([32, 39, 40, 41, 43, 44, 45, 46, 47, 58, 61, 63].getD i9_196.toNat 0)) (i9_196 + 1)) (aP g67 aN) ?_
             exact ⟨_, _, rfl, h⟩
           ·replace h := bif_f h g69
            refine Vc [] [0] ⟨[(0, kU l0), (1, kH 0), (5, kI i5_2), (7, kB p7_142)], [], [ob 5 l1]⟩ (W_exit ?_)
            refine Vrs hT [0] ⟨[(0, kU l0), (1, kH 0), (5, kI i5_2), (67, kB (!p7_142))], [], [ob 5 l1]⟩ ?_
            refine Vi ((!p7_142)) (fun g68 => ?_) (fun g68 => ?_)
            ·replace h := bif_t h g68
             refine Vrs hT [] ⟨[(4, kB false)], [], []⟩ ?_
             refine Vc [] [] (rText_R false) (W_ret ?_)
             exact ⟨.inl rfl, by cases h; rfl⟩
            ·replace h := bif_f h g68
             refine Vc [] [0] (rText_j1_E l0 l1 i5_2) (W_skip ?_)
             exact ⟨rfl, h⟩
         ·replace h := bif_f h g62
          refine Vg hT fN [(2, false), (9, false), (17, false)] [] [0] ⟨[(0, kU l0), (1, kH 0), (5, kI i5_2), (6, kU (l1.getD i5_2.toNat 0)), (7, kB false)], [], [ob 5 l1]⟩ (aP g5 (aP g43 (aP g62 aN))) ?_
          refine Vrs hT [0, 1] ⟨[(0, kU l0), (1, kH 0), (5, kI i5_2), (6, kU (l1.getD i5_2.toNat 0)), (7, kB false), (8, kH 1)], [], [ob 5 l1, ⟨.row, 5, 1, 12, .b [32, 39, 40, 41, 43, 44, 45, 46, 47, 58, 61, 63]⟩]⟩ ?_
          refine W_seq ?_
          refine Vrs hT [0, 1] ⟨[(0, kU l0), (1, kH 0), (5, kI i5_2), (6, kU (l1.getD i5_2.toNat 0)), (7, kB false), (8, kH 1), (9, kI 0)], [], [ob 5 l1, ⟨.row, 5, 1, 12, .b [32, 39, 40, 41, 43, 44, 45, 46, 47, 58, 61, 63]⟩]⟩ ?_
          refine W_block ?_
          refine Vc [] [0, 1] (rText_l12_E l0 l1 i5_2 false 0) (W_lp ((rText_l12_P n l0 l1 i5_2 (rText_l1 n l0 l1 fu_l1) r)) n ⟨_, _, rfl, h⟩ ?_)
          rintro fu_l12 _ ⟨p7_143, i9_197, rfl, h⟩
          cases fu_l12 with
          | zero => cases h
          | succ fu_l12 =>
           refine ⟨fu_l12, rfl, ?_⟩
           rw [rText_l12] at h
           refine W_seq ?_
           refine Vrs hT [0, 1] ⟨[(0, kU l0), (1, kH 0), (5, kI i5_2), (6, kU (l1.getD i5_2.toNat 0)), (7, kB p7_143), (8, kH 1), (9, kI i9_197), (54, kB (decide (i9_197 < (([32, 39, 40, 41, 43, 44, 45, 46, 47, 58, 61, 63].length : Nat) : Int))))], [], [ob 5 l1, nb 5 [32, 39, 40, 41, 43, 44, 45, 46, 47, 58, 61, 63]]⟩ ?_
           refine Vi ((decide (i9_197 < (([32, 39, 40, 41, 43, 44, 45, 46, 47, 58, 61, 63].length : Nat) : Int)))) (fun g76 => ?_) (fun g76 => ?_)
           ·replace h := bif_t h g76
            refine Vc [] [0, 1] ⟨[(0, kU l0), (1, kH 0), (5, kI i5_2), (6, kU (l1.getD i5_2.toNat 0)), (7, kB p7_143), (8, kH 1), (9, kI i9_197)], [], [ob 5 l1, nb 5 [32, 39, 40, 41, 43, 44, 45, 46, 47, 58, 61, 63]]⟩ (W_skip ?_)
            refine W_seq ?_
            refine W_block ?_
            rcases Bool.eq_false_or_eq_true p7_143 with g70 | g70
            ·replace h := bif_t h g70
             refine Vg hT fN [(1, true)] [] [0, 1] ⟨[(0, kU l0), (1, kH 0), (5, kI i5_2), (6, kU (l1.getD i5_2.toNat 0)), (7, kB true), (8, kH 1), (9, kI i9_197)], [], [ob 5 l1, nb 5 [32, 39, 40, 41, 43, 44, 45, 46, 47, 58, 61, 63]]⟩ (aP g70 aN) ?_
             obtain ⟨g71, h⟩ := gd_some h
             refine Vg hT fN [] [] [0, 1] (rText_l12_E l0 l1 i5_2 true (i9_197 + 1)) (aP g71 aN) ?_
             exact ⟨_, _, rfl, h⟩
            ·replace h := bif_f h g70
             obtain ⟨g72, g73, h⟩ := gd2 h
             refine Vg hT fN [(1, false)] [] [0, 1] ⟨[(0, kU l0), (1, kH 0), (5, kI i5_2), (6, kU (l1.getD i5_2.toNat 0)), (7, kB ((l1.getD i5_2.toNat 0) == ([32, 39, 40, 41, 43, 44, 45, 46, 47, 58, 61, 63].getD i9_197.toNat 0))), (8, kH 1), (9, kI i9_197)], [], [ob 5 l1, nb 5 [32, 39, 40, 41, 43, 44, 45, 46, 47, 58, 61, 63]]⟩ (aP g70 (aP g72 (aP g73 aN))) ?_
             obtain ⟨g74, h⟩ := gd_some h
             refine Vg hT fN [] [] [0, 1] (rText_l12_E l0 l1 i5_2 ((l1.getD i5_2.toNat 0) == ([32, 39, 40, 41, 43, 44, 45, 46, 47, 58, 61, 63].getD i9_197.toNat 0)) (i9_197 + 1)) (aP g74 aN) ?_
             exact ⟨_, _, rfl, h⟩
           ·replace h := bif_f h g76
            refine Vc [] [0] ⟨[(0, kU l0), (1, kH 0), (5, kI i5_2), (7, kB p7_143)], [], [ob 5 l1]⟩ (W_exit ?_)
            refine Vrs hT [0] ⟨[(0, kU l0), (1, kH 0), (5, kI i5_2), (67, kB (!p7_143))], [], [ob 5 l1]⟩ ?_
            refine Vi ((!p7_143)) (fun g75 => ?_) (fun g75 => ?_)
            ·replace h := bif_t h g75
             refine Vrs hT [] ⟨[(4, kB false)], [], []⟩ ?_
             refine Vc [] [] (rText_R false) (W_ret ?_)
             exact ⟨.inl rfl, by cases h; rfl⟩
            ·replace h := bif_f h g75
             refine Vc [] [0] (rText_j1_E l0 l1 i5_2) (W_skip ?_)
             exact ⟨rfl, h⟩
      ·replace h := bif_f h g77
       refine Vc [] [0] (rText_j1_E l0 l1 i5_2) (W_skip ?_)
       exact ⟨rfl, h⟩
   ·replace h := bif_f h g79
    refine Vc [] [] ⟨[], [], []⟩ (W_exit ?_)
    refine Vrs hT [] ⟨[(4, kB true)], [], []⟩ ?_
    refine Vc [] [] (rText_R true) (W_ret ?_)
    exact ⟨.inl rfl, by cases h; rfl⟩
def rOid_R (r : Bool) : S := ⟨[(2, kB r)], [], []⟩
def rOid_ct (n : Nat) (r : Bool) : Ct := ctc (rW 63).rd fun _ l0 => ct0 fun H => ([rOid n l0 = some r], shA H.length (kB r), shH H.length [])
theorem rOid_ok (n : Nat) (r : Bool) : FnOk Tryz.prog Tr 79 (rOid_ct n r) := by
 refine fnok Tryz.func79 ?_
 refine HO_c (rW 63) fun l0 _ => HO_0 tabO_oa (rOid_R r) [.tmp 2] [] 29 Tryz.func79 fun w hG h => ?_
 unfold rOid at h
 have hT := tabO_oa
 refine Vrs hT [0] ⟨[(0, kH 0)], [], [ow 63 l0]⟩ ?_
 refine W_seq ?_
 refine W_seq ?_
 rcases Bool.eq_false_or_eq_true (decide (((l0.length : Nat) : Int) < (2 : Int))) with g1 | g1
 ·replace h := bif_t h g1
  refine Vg hT fN [(3, true)] [] [0] ⟨[(0, kH 0), (16, kB true)], [], [ow 63 l0]⟩ (aP g1 aN) ?_
  refine Vi (true) (fun _ => ?_) (fun hb => by cases hb)
  refine Vrs hT [] ⟨[(2, kB false)], [], []⟩ ?_
  refine Vc [] [] (rOid_R false) (W_ret ?_)
  exact ⟨.inl rfl, by cases h; rfl⟩
 ·replace h := bif_f h g1
  rcases Bool.eq_false_or_eq_true (decide ((16 : Int) < ((l0.length : Nat) : Int))) with g2 | g2
  ·replace h := bif_t h g2
   refine Vg hT fN [(3, false), (8, true)] [] [0] ⟨[(0, kH 0), (16, kB true)], [], [ow 63 l0]⟩ (aP g1 (aP g2 aN)) ?_
   refine Vi (true) (fun _ => ?_) (fun hb => by cases hb)
   refine Vrs hT [] ⟨[(2, kB false)], [], []⟩ ?_
   refine Vc [] [] (rOid_R false) (W_ret ?_)
   exact ⟨.inl rfl, by cases h; rfl⟩
  ·replace h := bif_f h g2
   obtain ⟨g3, g4, h⟩ := gd2 h
   refine Vg hT fN [(3, false), (8, false)] [] [0] ⟨[(0, kH 0), (16, kB (decide ((2 : UInt32) < (l0.getD 0 0))))], [], [ow 63 l0]⟩ (aP g1 (aP g2 (aP g3 (aP g4 aN)))) ?_
   refine Vi ((decide ((2 : UInt32) < (l0.getD 0 0)))) (fun g12 => ?_) (fun g12 => ?_)
   ·replace h := bif_t h g12
    refine Vrs hT [] ⟨[(2, kB false)], [], []⟩ ?_
    refine Vc [] [] (rOid_R false) (W_ret ?_)
    exact ⟨.inl rfl, by cases h; rfl⟩
   ·replace h := bif_f h g12
    refine W_skip ?_
    refine W_seq ?_
    obtain ⟨g5, g6, h⟩ := gd2 h
    refine Vgs hT fN [] [] [0] ⟨[(0, kH 0), (20, kB (decide ((l0.getD 0 0) < (2 : UInt32))))], [], [ow 63 l0]⟩ (aP g5 (aP g6 aN)) ?_
    refine Vi ((decide ((l0.getD 0 0) < (2 : UInt32)))) (fun g11 => ?_) (fun g11 => ?_)
    ·replace h := bif_t h g11
     obtain ⟨g7, g8, h⟩ := gd2 h
     refine Vgs hT fN [] [] [] ⟨[(2, kB (decide ((l0.getD 1 0) < (40 : UInt32))))], [], []⟩ (aP g7 (aP g8 aN)) ?_
     refine Vc [] [] (rOid_R (decide ((l0.getD 1 0) < (40 : UInt32)))) (W_ret ?_)
     exact ⟨.inl rfl, by cases h; rfl⟩
    ·replace h := bif_f h g11
     refine W_skip ?_
     obtain ⟨g9, g10, h⟩ := gd2 h
     refine Vgs hT fN [] [] [] ⟨[(2, kB (decide ((l0.getD 1 0) ≤ (4294967215 : UInt32))))], [], []⟩ (aP g9 (aP g10 aN)) ?_
     refine Vc [] [] (rOid_R (decide ((l0.getD 1 0) ≤ (4294967215 : UInt32)))) (W_ret ?_)
     exact ⟨.inl rfl, by cases h; rfl⟩
def rgroup_R (r : List UInt8) : S := ⟨[(2, kH 0)], [], [nb 5 r]⟩
def rgroup_ct (n : Nat) (r : List UInt8) : Ct := ctc rU32.rd fun _ l0 => ct0 fun H => ([rgroup n l0 = some r], shA H.length (kH 0), shH H.length [nb 5 r])
theorem rgroup_ok (n : Nat) : ∀ r : List UInt8, FnOk Tryz.prog Tr 58 (rgroup_ct n r) := by
 induction n with
 | zero =>
  intro r
  refine fnok Tryz.func58 ?_
  refine HO_c rU32 fun l0 _ => HO_0 tabO_oa (rgroup_R r) [.tmp 2] [0] 30 Tryz.func58 fun w hG h => ?_
  cases h
 | succ n ih =>
  intro r
  refine fnok Tryz.func58 ?_
  refine HO_c rU32 fun l0 _ => HO_0 tabO_oa (rgroup_R r) [.tmp 2] [0] 30 Tryz.func58 fun w hG h => ?_
  unfold rgroup at h
  have hT := tabO_oa
  refine Vrs hT [] ⟨[(0, kX l0)], [], []⟩ ?_
  refine W_seq ?_
  refine Vrs hT [] ⟨[(0, kX l0), (5, kB (decide (l0 < (128 : UInt32))))], [], []⟩ ?_
  refine Vi ((decide (l0 < (128 : UInt32)))) (fun g11 => ?_) (fun g11 => ?_)
  ·replace h := bif_t h g11
   refine Vrs hT [0] ⟨[(2, kH 0)], [], [⟨.row, 5, 1, 1, .b [l0.toUInt8]⟩]⟩ ?_
   refine Vc [] [0] (rgroup_R [l0.toUInt8]) (W_ret ?_)
   exact ⟨.inl rfl, by cases h; rfl⟩
  ·replace h := bif_f h g11
   refine W_skip ?_
   obtain ⟨g1, h⟩ := gd_some h
   obtain ⟨r11, g2, h⟩ := bind_some' h
   refine Vgs hT (fT 2 (ih r11) fN) [] [] [0] ⟨[(0, kX l0), (3, kH 0)], [], [nb 5 r11]⟩ (aP g1 (aP g2 aN)) ?_
   obtain ⟨g3, g4, g5, g6, g7, h⟩ := gd5 h
   obtain ⟨g8, h⟩ := gd_some h
   refine Vgs hT fN [] [] [0] ⟨[(0, kX l0), (3, kH 0)], [], [⟨.row, 5, 1, r11.length, .b (r11.set ((((r11.length : Nat) : Int) - 1).toNat) ((r11.getD ((((r11.length : Nat) : Int) - 1).toNat) 0) + (128 : UInt8)))⟩]⟩ (aP g3 (aP g4 (aP g5 (aP g6 (aP g7 (aP g8 aN)))))) ?_
   obtain ⟨g9, g10, h⟩ := gd2 h
   refine Vgs hT fN [] [] [2] ⟨[(2, kH 0)], [], [nb 5 ((r11.set ((((r11.length : Nat) : Int) - 1).toNat) ((r11.getD ((((r11.length : Nat) : Int) - 1).toNat) 0) + (128 : UInt8))) ++ [(l0 % (128 : UInt32)).toUInt8])]⟩ (aP g9 (aP g10 aN)) ?_
   refine Vc [] [0] (rgroup_R ((r11.set ((((r11.length : Nat) : Int) - 1).toNat) ((r11.getD ((((r11.length : Nat) : Int) - 1).toNat) 0) + (128 : UInt8))) ++ [(l0 % (128 : UInt32)).toUInt8])) (W_ret ?_)
   exact ⟨.inl rfl, by cases h; rfl⟩
def rOidBody_l1_E (a0 : List UInt32) (l3_2 : List UInt8) (i4_2 : Int) : S := ⟨[(0, kH 0), (3, kH 1), (4, kI i4_2)], [], [ow 63 a0, nb 5 l3_2]⟩
abbrev rOidBody_l1_P (n : Nat) (a0 : List UInt32) (r : List UInt8) (fu : Nat) : S → Prop := fun s => ∃ (l3_2 : List UInt8), ∃ (i4_2 : Int), s = rOidBody_l1_E a0 l3_2 i4_2 ∧ rOidBody_l1 n a0 fu l3_2 i4_2 = some r
def rOidBody_R (r : List UInt8) : S := ⟨[(2, kH 0)], [], [nb 5 r]⟩
def rOidBody_ct (n : Nat) (r : List UInt8) : Ct := ctc (rW 63).rd fun _ l0 => ct0 fun H => ([rOidBody n l0 = some r], shA H.length (kH 0), shH H.length [nb 5 r])
theorem rOidBody_ok (n : Nat) (r : List UInt8) : FnOk Tryz.prog Tr 26 (rOidBody_ct n r) := by
 refine fnok Tryz.func26 ?_
 refine HO_c (rW 63) fun l0 _ => HO_0 tabO_oa (rOidBody_R r) [.tmp 2] [0] 28 Tryz.func26 fun w hG h => ?_
 unfold rOidBody at h
 have hT := tabO_oa
 refine Vrs hT [0] ⟨[(0, kH 0)], [], [ow 63 l0]⟩ ?_
 obtain ⟨g1, g2, g3, g4, h⟩ := gd4 h
 obtain ⟨r13, g5, h⟩ := bind_some' h
 refine Vds hT (fT 8 (rgroup_ok n r13) fN) 7 [] [(0, false), (8, false), (11, false)] [] [0, 1] ⟨[(0, kH 0), (3, kH 1)], [], [ow 63 l0, nb 5 r13]⟩ (aP g1 (aP g2 (aP g3 (aP g4 (aP g5 aN))))) ?_
 refine W_seq ?_
 refine Vrs hT [0, 1] ⟨[(0, kH 0), (3, kH 1), (4, kI 2)], [], [ow 63 l0, nb 5 r13]⟩ ?_
 refine W_block ?_
 refine Vc [] [0, 1] (rOidBody_l1_E l0 r13 2) (W_lp ((rOidBody_l1_P n l0 r)) n ⟨_, _, rfl, h⟩ ?_)
 rintro fu_l1 _ ⟨l3_2, i4_2, rfl, h⟩
 cases fu_l1 with
 | zero => cases h
 | succ fu_l1 =>
  refine ⟨fu_l1, rfl, ?_⟩
  rw [rOidBody_l1] at h
  refine W_seq ?_
  refine Vrs hT [0, 1] ⟨[(0, kH 0), (3, kH 1), (4, kI i4_2), (17, kB (decide (i4_2 < ((l0.length : Nat) : Int))))], [], [ow 63 l0, nb 5 l3_2]⟩ ?_
  refine Vi ((decide (i4_2 < ((l0.length : Nat) : Int)))) (fun g11 => ?_) (fun g11 => ?_)
  ·replace h := bif_t h g11
   refine W_skip ?_
   refine W_seq ?_
   refine W_block ?_
   obtain ⟨g6, g7, h⟩ := gd2 h
   obtain ⟨r25_3, g8, h⟩ := bind_some' h
   obtain ⟨g9, h⟩ := gd_some h
   refine Vg hT (fT 5 (rgroup_ok n r25_3) fN) [] [] [0, 3] ⟨[(0, kH 0), (3, kH 1), (4, kI i4_2)], [], [ow 63 l0, nb 5 (l3_2 ++ r25_3)]⟩ (aP g6 (aP g7 (aP g8 (aP g9 aN)))) ?_
   obtain ⟨g10, h⟩ := gd_some h
   refine Vg hT fN [] [] [0, 1] (rOidBody_l1_E l0 (l3_2 ++ r25_3) (i4_2 + 1)) (aP g10 aN) ?_
   exact ⟨_, _, rfl, h⟩
  ·replace h := bif_f h g11
   refine Vc [] [1] ⟨[(3, kH 0)], [], [nb 5 l3_2]⟩ (W_exit ?_)
   refine Vrs hT [0] ⟨[(2, kH 0)], [], [nb 5 l3_2]⟩ ?_
   refine Vc [] [0] (rOidBody_R l3_2) (W_ret ?_)
   exact ⟨.inl rfl, by cases h; rfl⟩
end Go.Proofs.YtiojofjllkhbhaaGreat
end
section
namespace Go.Sx
open Go Go.RowKit Go.Ch Go.Proofs.YtiojofjllkhbhaaGreat
abbrev AttrT := List UInt32 × (UInt8 × List UInt8)
def cnt : Nat → Nat → List UInt8
 | 0, _ => []
 | f + 1, m => if m = 0 then [] else cnt f (m / 128) ++ [UInt8.ofNat (m % 128 + 128)]
def gN (m : Nat) : List UInt8 := cnt 5 (m / 128) ++ [UInt8.ofNat (m % 128)]
theorem cnt_0 (f : Nat) : cnt f 0 = [] := by cases f <;> simp [cnt]
theorem cnt_up : ∀ (f m : Nat), m < 128 ^ f → cnt (f + 1) m = cnt f m
 | 0, m, h => by
  obtain rfl : m = 0 := by simpa using h
  rfl
 | f + 1, m, h => by
  rw [cnt]
  conv => rhs; rw [cnt]
  by_cases h0 : m = 0
  ·rw [if_pos h0, if_pos h0]
  ·rw [if_neg h0, if_neg h0, cnt_up f (m / 128) (Nat.div_lt_of_lt_mul (by rw [Nat.pow_succ] at h; omega))]
theorem gN_small {d : Nat} (hd : d < 128) : gN d = [UInt8.ofNat d] := by
 unfold gN; rw [show d / 128 = 0 by omega, show d % 128 = d by omega, cnt_0]; rfl
theorem cnt_len : ∀ (f m : Nat), (cnt f m).length ≤ f
 | 0, _ => Nat.le_refl _
 | f + 1, m => by
  rw [cnt]; split
  ·simp
  ·have := cnt_len f (m / 128); simp; omega
theorem or128 : ∀ k : Fin 128, (UInt8.ofNat k.1 ||| 128) = UInt8.ofNat (k.1 + 128) := by decide
theorem low7 (n : UInt32) : (n &&& 127).toUInt8 = UInt8.ofNat (n.toNat % 128) := by
 apply UInt8.toNat_inj.1
 rw [UInt32.toNat_toUInt8, UInt32.toNat_and, show (127 : UInt32).toNat = 2 ^ 7 - 1 from rfl, Nat.and_two_pow_sub_one_eq_mod]
 simp
theorem shr7n (n : UInt32) : (n >>> 7).toNat = n.toNat / 128 := by
 rw [UInt32.toNat_shiftRight, show (7 : UInt32).toNat % 32 = 7 from rfl, Nat.shiftRight_eq_div_pow]
theorem grpT_is : ∀ (f : Nat) (n : UInt32), (grpT f n).reverse = cnt f n.toNat
 | 0, _ => rfl
 | f + 1, n => by
  rw [grpT, cnt]
  by_cases h : n = 0
  ·subst h; rfl
  ·have h' : ¬ n.toNat = 0 := fun e => h (UInt32.toNat_inj.1 e)
   rw [if_neg h, if_neg h', List.reverse_cons, grpT_is f, shr7n, low7, or128 ⟨n.toNat % 128, Nat.mod_lt _ (by decide)⟩]
theorem grp_is (n : UInt32) : grp n = gN n.toNat := by
 unfold grp gN
 rw [List.reverse_cons, grpT_is, shr7n, low7]
theorem grp_len (n : UInt32) : (grp n).length ≤ 6 := by rw [grp_is]; unfold gN; have := cnt_len 5 (n.toNat / 128); simp; omega
theorem set_last {α : Type} (l : List α) (x y z : α) : (l ++ [x]).set ((l ++ [x]).length - 1) y = l ++ [y] ∧ (l ++ [x]).getD ((l ++ [x]).length - 1) z = x := by
 constructor
 ·rw [List.length_append, show l.length + [x].length - 1 = l.length from rfl, List.set_append_right _ _ (Nat.le_refl _), Nat.sub_self]; rfl
 ·rw [List.length_append, show l.length + [x].length - 1 = l.length from rfl, List.getD_eq_getElem?_getD, List.getElem?_append_right (Nat.le_refl _), Nat.sub_self]; rfl
theorem rgroup_is : ∀ (f n : Nat) (a : UInt32), a.toNat < 128 ^ f → f < n → rgroup n a = some (gN a.toNat)
 | f, 0, _, _, h => by omega
 | 0, n + 1, a, ha, _ => by
  have h0 : a.toNat = 0 := by simpa using ha
  obtain rfl : a = 0 := UInt32.toNat_inj.1 h0
  rfl
 | f + 1, n + 1, a, ha, hf => by
  rw [rgroup]
  by_cases h : a < 128
  ·have h' : a.toNat < 128 := by rw [UInt32.lt_iff_toNat_lt] at h; exact h
   rw [ite_t (decide_eq_true h), gN_small h']
   congr 2
  ·have h' : 128 ≤ a.toNat := by rw [UInt32.lt_iff_toNat_lt] at h; exact Nat.le_of_not_lt h
   have e : (a / 128).toNat = a.toNat / 128 := by rw [UInt32.toNat_div]; rfl
   rw [ite_f (decide_eq_false h), gd_pos (by decide), rgroup_is f n (a / 128) (by rw [e]; exact Nat.div_lt_of_lt_mul (by rw [Nat.pow_succ] at ha; omega)) (by omega), Option.bind_some, e]
   have hl : (gN (a.toNat / 128)).length ≤ 6 := by unfold gN; have := cnt_len 5 (a.toNat / 128 / 128); simp; omega
   have hp : 0 < (gN (a.toNat / 128)).length := by unfold gN; simp
   have ei : ((((gN (a.toNat / 128)).length : Nat) : Int) - 1).toNat = (gN (a.toNat / 128)).length - 1 := by omega
   rw [gd_pos (okI64 (by omega) (by omega)), gd_pos (okI64 (by omega) (by omega)), gd_pos (by omega), gd_pos (by omega), gd_pos (by omega), gd_pos (by omega), gd_pos (by decide), gd_pos (by unfold rmB; omega), ei]
   have hdiv : a.toNat / 128 / 128 * 128 + a.toNat / 128 % 128 = a.toNat / 128 := by omega
   have ha32 : a.toNat < 4294967296 := a.toNat_lt
   have hs := set_last (cnt 5 (a.toNat / 128 / 128)) (UInt8.ofNat (a.toNat / 128 % 128)) (UInt8.ofNat (a.toNat / 128 % 128) + 128) 0
   unfold gN
   rw [hs.2, hs.1]
   have e2 : UInt8.ofNat (a.toNat / 128 % 128) + 128 = UInt8.ofNat (a.toNat / 128 % 128 + 128) := by
    apply UInt8.toNat_inj.1; rw [UInt8.toNat_add]; simp
   rw [e2]
   have e3 : cnt 5 (a.toNat / 128 / 128) ++ [UInt8.ofNat (a.toNat / 128 % 128 + 128)] = cnt 5 (a.toNat / 128) := by
    conv => rhs; rw [cnt, if_neg (by omega)]
    rw [cnt_up 4 _ (by omega)]
   rw [e3]
   congr 3
theorem rgroup_g {n : Nat} (hn : 6 ≤ n) (a : UInt32) : rgroup n a = some (grp a) := by
 rw [grp_is]; exact rgroup_is 5 n a (by have := a.toNat_lt; omega) (by omega)
def oidOk (l : List UInt32) : Bool := decide (2 ≤ l.length) && decide (l.length ≤ 16) && (decide (l.getD 0 0 < 2) && decide (l.getD 1 0 < 40) || l.getD 0 0 == 2 && decide ((l.getD 1 0).toNat ≤ 4294967215))
theorem u32_3 (x : UInt32) : x < 2 ∨ x = 2 ∨ 2 < x := by
 rw [UInt32.lt_iff_toNat_lt, UInt32.lt_iff_toNat_lt, ← UInt32.toNat_inj]; show x.toNat < 2 ∨ x.toNat = 2 ∨ 2 < x.toNat; omega
theorem rOid_is (n : Nat) (l : List UInt32) : rOid n l = some (oidOk l) := by
 unfold rOid oidOk
 by_cases h1 : l.length < 2
 ·rw [ite_t (decide_eq_true (by omega)), decide_eq_false (show ¬ 2 ≤ l.length by omega)]; rfl
 ·rw [ite_f (decide_eq_false (by omega)), decide_eq_true (show 2 ≤ l.length by omega)]
  by_cases h2 : 16 < l.length
  ·rw [ite_t (decide_eq_true (by omega)), decide_eq_false (show ¬ l.length ≤ 16 by omega)]; rfl
  ·rw [ite_f (decide_eq_false (by omega)), decide_eq_true (show l.length ≤ 16 by omega), gd_pos (by omega), gd_pos (by omega)]
   rcases u32_3 (l.getD 0 0) with h | h | h
   ·have h' : ¬ 2 < l.getD 0 0 := fun h2 => UInt32.lt_irrefl _ (UInt32.lt_trans h h2)
    have h3 : (l.getD 0 0 == 2) = false := beq_eq_false_iff_ne.2 fun e => UInt32.lt_irrefl _ (e ▸ h)
    rw [ite_f (decide_eq_false h'), gd_pos (by omega), gd_pos (by omega), ite_t (decide_eq_true h), gd_pos (by omega), gd_pos (by omega), decide_eq_true h, h3]; simp
   ·rw [h, ite_f (by decide), gd_pos (by omega), gd_pos (by omega), ite_f (by decide), gd_pos (by omega), gd_pos (by omega)]
    simp [UInt32.le_iff_toNat_le]
   ·have h' : ¬ l.getD 0 0 < 2 := fun h2 => UInt32.lt_irrefl _ (UInt32.lt_trans h h2)
    have h3 : (l.getD 0 0 == 2) = false := beq_eq_false_iff_ne.2 fun e => UInt32.lt_irrefl _ (e ▸ h)
    rw [ite_t (decide_eq_true h), decide_eq_false h', h3]; rfl
theorem pident_is (n : Nat) (l : List UInt32) : pident n l = some (oidOk l) := by
 unfold pident oidOk
 by_cases h1 : l.length < 2
 ·rw [ite_t (decide_eq_true (by omega)), decide_eq_false (show ¬ 2 ≤ l.length by omega)]; rfl
 ·rw [ite_f (decide_eq_false (by omega)), decide_eq_true (show 2 ≤ l.length by omega)]
  by_cases h2 : 16 < l.length
  ·rw [ite_t (decide_eq_true (by omega)), decide_eq_false (show ¬ l.length ≤ 16 by omega)]; rfl
  ·rw [ite_f (decide_eq_false (by omega)), decide_eq_true (show l.length ≤ 16 by omega), gd_pos (by omega), gd_pos (by omega)]
   rcases u32_3 (l.getD 0 0) with h | h | h
   ·have h' : ¬ 2 < l.getD 0 0 := fun h2 => UInt32.lt_irrefl _ (UInt32.lt_trans h h2)
    have h3 : (l.getD 0 0 == 2) = false := beq_eq_false_iff_ne.2 fun e => UInt32.lt_irrefl _ (e ▸ h)
    rw [ite_f (decide_eq_false h'), gd_pos (by omega), gd_pos (by omega), ite_t (decide_eq_true h), gd_pos (by omega), gd_pos (by omega), decide_eq_true h, h3]; simp
   ·rw [h, ite_f (by decide), gd_pos (by omega), gd_pos (by omega), ite_f (by decide), gd_pos (by omega), gd_pos (by omega)]
    have e : (((l.getD 1 0).toUInt64 + 80 : UInt64) < 4294967296) ↔ (l.getD 1 0).toNat ≤ 4294967215 := by
     rw [UInt64.lt_iff_toNat_lt, UInt64.toNat_add, UInt32.toNat_toUInt64]
     have := (l.getD 1 0).toNat_lt
     show ((l.getD 1 0).toNat + 80) % 2 ^ 64 < 4294967296 ↔ _
     omega
    rw [show (decide (((l.getD 1 0).toUInt64 + 80 : UInt64) < 4294967296)) = decide ((l.getD 1 0).toNat ≤ 4294967215) from decide_eq_decide.2 e]
    simp
   ·have h' : ¬ l.getD 0 0 < 2 := fun h2 => UInt32.lt_irrefl _ (UInt32.lt_trans h h2)
    have h3 : (l.getD 0 0 == 2) = false := beq_eq_false_iff_ne.2 fun e => UInt32.lt_irrefl _ (e ▸ h)
    rw [ite_t (decide_eq_true h), decide_eq_false h', h3]; rfl
theorem oidOk_len {l : List UInt32} (h : oidOk l = true) : 2 ≤ l.length ∧ l.length ≤ 16 := by
 unfold oidOk at h
 simp only [Bool.and_eq_true, decide_eq_true_eq] at h
 exact ⟨h.1.1, h.1.2⟩
def grps (l : List UInt32) : List UInt8 := (l.map grp).flatten
theorem grps_cons (x : UInt32) (l : List UInt32) : grps (x :: l) = grp x ++ grps l := rfl
theorem grps_len : ∀ l : List UInt32, (grps l).length ≤ 6 * l.length
 | [] => Nat.le_refl _
 | x :: l => by rw [grps_cons, List.length_append, List.length_cons]; have := grp_len x; have := grps_len l; omega
def bodyOf (l : List UInt32) : List UInt8 := grp (40 * l.getD 0 0 + l.getD 1 0) ++ grps (l.drop 2)
theorem drop_at {α : Type} {l : List α} {i : Nat} {z : α} (h : i < l.length) : l.drop i = l.getD i z :: l.drop (i + 1) := by
 rw [List.drop_eq_getElem_cons h, List.getD_eq_getElem?_getD, List.getElem?_eq_getElem h]; rfl
theorem pOid_l1_is (n : Nat) (l : List UInt32) (hl : 2 ≤ l.length) (h16 : l.length ≤ 16) : ∀ (m i fu : Nat) (acc : List UInt8), i + m = l.length - 2 → m < fu → acc.length ≤ 1000 - 6 * m → pOid_l1 n l fu acc (i : Int) = some (acc ++ grps (l.drop (2 + i)), none) := by
 intro m
 induction m with
 | zero =>
  intro i fu acc hi hf _
  cases fu with
  | zero => omega
  | succ fu => rw [pOid_l1, ite_f (decide_eq_false (by omega)), List.drop_eq_nil_of_le (by omega)]; simp [grps]
 | succ m ih =>
  intro i fu acc hi hf ha
  cases fu with
  | zero => omega
  | succ fu =>
   have e : ((l.drop 2).take (l.length - 2)).getD i 0 = l.getD (2 + i) 0 := by
    rw [List.take_of_length_le (by simp)]
    simp [List.getD_eq_getElem?_getD]
   have hg := grp_len (l.getD (2 + i) 0)
   rw [pOid_l1, ite_t (decide_eq_true (by omega)), gd_pos (by omega), gd_pos (by omega), Int.toNat_natCast, e, gd_pos (by unfold rmB; omega), gd_pos (okI64 (by omega) (by omega))]
   have := ih (i + 1) fu (acc ++ grp (l.getD (2 + i) 0)) (by omega) (by omega) (by rw [List.length_append]; omega)
   rw [drop_at (z := 0) (show 2 + i < l.length by omega), grps_cons, ← List.append_assoc]
   exact this
theorem pOid_is {n : Nat} (hn : 100 ≤ n) (l : List UInt32) : pOid n l = some (if oidOk l then (bodyOf l, none) else ([], some 1)) := by
 unfold pOid
 rw [pident_is, Option.bind_some]
 cases h : oidOk l with
 | false => rfl
 | true =>
  obtain ⟨h2, h16⟩ := oidOk_len h
  rw [ite_f (by rfl), gd_pos (by omega), gd_pos (by omega), gd_pos (by omega), gd_pos (by omega), gd_pos (by omega), gd_pos (by omega), if_pos rfl]
  have hg := grp_len (40 * l.getD 0 0 + l.getD 1 0)
  exact pOid_l1_is n l h2 h16 (l.length - 2) 0 n _ (by omega) (by omega) (by omega)
theorem rOidBody_l1_is {n : Nat} (hn : 6 ≤ n) (l : List UInt32) (h16 : l.length ≤ 1000) : ∀ (m i fu : Nat) (acc : List UInt8), 2 + i + m = l.length → m < fu → acc.length ≤ 10000 - 6 * m → rOidBody_l1 n l fu acc ((2 + i : Nat) : Int) = some (acc ++ grps (l.drop (2 + i))) := by
 intro m
 induction m with
 | zero =>
  intro i fu acc hi hf _
  cases fu with
  | zero => omega
  | succ fu => rw [rOidBody_l1, ite_f (decide_eq_false (by omega)), List.drop_eq_nil_of_le (by omega)]; simp [grps]
 | succ m ih =>
  intro i fu acc hi hf ha
  cases fu with
  | zero => omega
  | succ fu =>
   have hg := grp_len (l.getD (2 + i) 0)
   rw [rOidBody_l1, ite_t (decide_eq_true (by omega)), gd_pos (by omega), gd_pos (by omega), Int.toNat_natCast, rgroup_g hn, Option.bind_some, gd_pos (by unfold rmB; omega), gd_pos (okI64 (by omega) (by omega))]
   have := ih (i + 1) fu (acc ++ grp (l.getD (2 + i) 0)) (by omega) (by omega) (by rw [List.length_append]; omega)
   rw [drop_at (z := 0) (show 2 + i < l.length by omega), grps_cons, ← List.append_assoc]
   exact this
theorem rOidBody_is {n : Nat} (hn : 2000 ≤ n) {l : List UInt32} (h2 : 2 ≤ l.length) (h16 : l.length ≤ 1000) : rOidBody n l = some (bodyOf l) := by
 unfold rOidBody
 have hg := grp_len (40 * l.getD 0 0 + l.getD 1 0)
 rw [gd_pos (by omega), gd_pos (by omega), gd_pos (by omega), gd_pos (by omega), rgroup_g (by omega), Option.bind_some]
 exact rOidBody_l1_is (by omega) l h16 (l.length - 2) 0 n _ (by omega) (by omega) (by omega)
abbrev oth : List UInt8 := [32, 39, 40, 41, 43, 44, 45, 46, 47, 58, 61, 63]
theorem loop_true (f : Nat → Int → Option Bool) (K : Option Bool) (hf : ∀ fu i, f (fu + 1) i = bif (decide (i < ((oth.length : Nat) : Int))) then gd (okI .i64 (i + 1)) (f fu (i + 1)) else K) : ∀ (m i fu : Nat), i + m = 12 → m < fu → f fu (i : Int) = K := by
 intro m
 induction m with
 | zero =>
  intro i fu hi hf'
  cases fu with
  | zero => omega
  | succ fu => rw [hf, ite_f (decide_eq_false (by show ¬ (i : Int) < 12; omega))]
 | succ m ih =>
  intro i fu hi hf'
  cases fu with
  | zero => omega
  | succ fu =>
   rw [hf, ite_t (decide_eq_true (by show (i : Int) < 12; omega)), gd_pos (okI64 (by omega) (by omega))]
   exact ih (i + 1) fu (by omega) (by omega)
theorem loop_any (f : Nat → Bool → Int → Option Bool) (K : Option Bool) (x : UInt8)
  (hf : ∀ fu p i, f (fu + 1) p i = bif (decide (i < ((oth.length : Nat) : Int))) then bif p then gd (okI .i64 (i + 1)) (f fu true (i + 1)) else gd (0 ≤ i) (gd (i < ((oth.length : Nat) : Int)) (gd (okI .i64 (i + 1)) (f fu (x == oth.getD i.toNat 0) (i + 1))))
   else bif (!p) then some false else K) : ∀ (m i fu : Nat) (p : Bool), i + m = 12 → m < fu → f fu p (i : Int) = if p || (oth.drop i).contains x then K else some false := by
 intro m
 induction m with
 | zero =>
  intro i fu p hi hf'
  cases fu with
  | zero => omega
  | succ fu =>
   obtain rfl : i = 12 := by omega
   rw [hf, ite_f (by rfl)]
   cases p <;> rfl
 | succ m ih =>
  intro i fu p hi hf'
  cases fu with
  | zero => omega
  | succ fu =>
   have hd : oth.drop i = oth.getD i 0 :: oth.drop (i + 1) := drop_at (by show i < 12; omega)
   rw [hf, ite_t (decide_eq_true (by show (i : Int) < 12; omega)), hd]
   cases p with
   | true =>
    rw [ite_t (by rfl), gd_pos (okI64 (by omega) (by omega))]
    have := ih (i + 1) fu true (by omega) (by omega)
    rw [Bool.true_or] at this ⊢
    exact this
   | false =>
    rw [ite_f (by rfl), gd_pos (by omega), gd_pos (by show (i : Int) < 12; omega), gd_pos (okI64 (by omega) (by omega)), Int.toNat_natCast]
    have := ih (i + 1) fu (x == oth.getD i 0) (by omega) (by omega)
    rw [List.contains_cons, Bool.false_or]
    exact this
theorem rText_l1_is {n : Nat} (hn : 100 ≤ n) {mk : UInt8} {a : List UInt8} (ha : a.length ≤ 100000) (hm : mk = 19 ∨ mk = 22) : ∀ (m i fu : Nat), i + m = a.length → m < fu → rText_l1 n mk a fu (i : Int) = some (!((a.drop i).any (if mk = 19 then prtN else hiB))) := by
 intro m
 induction m with
 | zero =>
  intro i fu hi hf
  cases fu with
  | zero => omega
  | succ fu => rw [rText_l1, ite_f (decide_eq_false (by omega)), List.drop_eq_nil_of_le (by omega)]; rfl
 | succ m ih =>
  intro i fu hi hf
  cases fu with
  | zero => omega
  | succ fu =>
   have hd := drop_at (l := a) (z := 0) (show i < a.length by omega)
   have hj : rText_j1 n mk a (i : Int) (rText_l1 n mk a fu) = some (!((a.drop (i + 1)).any (if mk = 19 then prtN else hiB))) := by
    unfold rText_j1
    rw [gd_pos (okI64 (by omega) (by omega))]
    exact ih (i + 1) fu (by omega) (by omega)
   rw [rText_l1, ite_t (decide_eq_true (by omega)), gd_pos (by omega), gd_pos (by omega), Int.toNat_natCast, hd, List.any_cons]
   generalize hx : a.getD i 0 = x
   have hx' : a.getD ((i : Nat) : Int).toNat 0 = x := by rw [Int.toNat_natCast]; exact hx
   generalize hK : rText_j1 n mk a (i : Int) (rText_l1 n mk a fu) = K at hj
   by_cases h128 : 128 ≤ x
   ·rw [ite_t (decide_eq_true h128)]
    have h1 : hiB x = true := decide_eq_true h128
    have h2 : prtN x = true := by
     have : ∀ i : Fin 256, 128 ≤ UInt8.ofNat i.1 → prtN (UInt8.ofNat i.1) = true := by decide +kernel
     have := this ⟨x.toNat, x.toNat_lt⟩
     simp only [UInt8.ofNat_toNat] at this
     exact this h128
    rcases hm with rfl | rfl
    ·rw [if_pos rfl, h2]; rfl
    ·rw [if_neg (by decide), h1]; rfl
   ·rw [ite_f (decide_eq_false h128)]
    rcases hm with rfl | rfl
    ·rw [ite_t (by rfl), if_pos rfl]
     rw [if_pos rfl] at hj
     have kT : ∀ (f : Nat → Int → Option Bool), (∀ fu i, f (fu + 1) i = bif (decide (i < ((oth.length : Nat) : Int))) then gd (okI .i64 (i + 1)) (f fu (i + 1)) else K) → prB x = true → f n 0 = some (!(prtN x || (a.drop (i + 1)).any prtN)) := fun f hf hp => by
      rw [show (0 : Int) = ((0 : Nat) : Int) from rfl, loop_true f K hf 12 0 n rfl (by omega), hj]
      unfold prtN at *; rw [hp]; rfl
     have kA : ∀ (f : Nat → Bool → Int → Option Bool) (p : Bool), (∀ fu p i, f (fu + 1) p i = bif (decide (i < ((oth.length : Nat) : Int))) then bif p then gd (okI .i64 (i + 1)) (f fu true (i + 1)) else gd (0 ≤ i) (gd (i < ((oth.length : Nat) : Int)) (gd (okI .i64 (i + 1)) (f fu (x == oth.getD i.toNat 0) (i + 1)))) else bif (!p) then some false else K) → prB x = (p || oth.contains x) → f n p 0 = some (!(prtN x || (a.drop (i + 1)).any prtN)) := fun f p hf hp => by
      rw [show (0 : Int) = ((0 : Nat) : Int) from rfl, loop_any f K x hf 12 0 n p rfl (by omega), List.drop_zero, ← hp]
      unfold prtN at *
      cases h : prB x with
      | true => rw [if_pos rfl, hj]; rfl
      | false => rfl
     have pe : prB x = (decide (97 ≤ x) && decide (x ≤ 122) || decide (65 ≤ x) && decide (x ≤ 90) || decide (48 ≤ x) && decide (x ≤ 57) || oth.contains x) := rfl
     by_cases h97 : 97 ≤ x
     ·rw [ite_t (decide_eq_true h97)]
      by_cases h122 : x ≤ 122
      ·rw [ite_t (decide_eq_true h122)]
       exact kT _ (fun fu i => by rw [← hK]; rfl) (by rw [pe, decide_eq_true h97, decide_eq_true h122]; rfl)
      ·rw [ite_f (decide_eq_false h122)]
       have h65 : 65 ≤ x := UInt8.le_trans (by decide) h97
       have h90 : ¬ x ≤ 90 := fun h => h122 (UInt8.le_trans h (by decide))
       have h48 : 48 ≤ x := UInt8.le_trans (by decide) h97
       have h57 : ¬ x ≤ 57 := fun h => h122 (UInt8.le_trans h (by decide))
       rw [ite_t (decide_eq_true h65), ite_f (decide_eq_false h90), ite_t (decide_eq_true h48)]
       exact kA _ _ (fun fu p i => by rw [← hK, ← hx]; rfl) (by rw [pe, decide_eq_false h122, decide_eq_false h90, decide_eq_true h48]; simp)
     ·rw [ite_f (decide_eq_false h97)]
      by_cases h65 : 65 ≤ x
      ·rw [ite_t (decide_eq_true h65)]
       by_cases h90 : x ≤ 90
       ·rw [ite_t (decide_eq_true h90)]
        exact kT _ (fun fu i => by rw [← hK]; rfl) (by rw [pe, decide_eq_true h65, decide_eq_true h90]; simp)
       ·rw [ite_f (decide_eq_false h90)]
        have h48 : 48 ≤ x := UInt8.le_trans (by decide) h65
        rw [ite_t (decide_eq_true h48)]
        exact kA _ _ (fun fu p i => by rw [← hK, ← hx]; rfl) (by rw [pe, decide_eq_false h97, decide_eq_false h90, decide_eq_true h48]; simp)
      ·rw [ite_f (decide_eq_false h65)]
       by_cases h48 : 48 ≤ x
       ·rw [ite_t (decide_eq_true h48)]
        exact kA _ _ (fun fu p i => by rw [← hK, ← hx]; rfl) (by rw [pe, decide_eq_false h97, decide_eq_false h65, decide_eq_true h48]; simp)
       ·rw [ite_f (decide_eq_false h48)]
        exact kA _ _ (fun fu p i => by rw [← hK, ← hx]; rfl) (by rw [pe, decide_eq_false h97, decide_eq_false h65, decide_eq_false h48]; simp)
    ·rw [ite_f (by rfl), if_neg (by decide), hj, if_neg (by decide)]
     have h1 : hiB x = false := decide_eq_false h128
     rw [h1]; rfl
def loB (b : Nat) : Nat := if b = 224 then 160 else if b = 240 then 144 else 128
def hiE (b : Nat) : Nat := if b = 237 then 159 else if b = 244 then 143 else 191
theorem loB_is (b : Nat) : (b = 224 ∧ loB b = 160) ∨ (b = 240 ∧ loB b = 144) ∨ (b ≠ 224 ∧ b ≠ 240 ∧ loB b = 128) := by unfold loB; split <;> (try split) <;> omega
theorem hiE_is (b : Nat) : (b = 237 ∧ hiE b = 159) ∨ (b = 244 ∧ hiE b = 143) ∨ (b ≠ 237 ∧ b ≠ 244 ∧ hiE b = 191) := by unfold hiE; split <;> (try split) <;> omega
def refOK (N b0 b1 b2 b3 : Nat) : Option Nat :=
 if b0 < 128 then some 0
 else if 194 ≤ b0 ∧ b0 ≤ 223 then (if 1 < N ∧ 128 ≤ b1 ∧ b1 ≤ 191 then some 1 else none)
 else if 224 ≤ b0 ∧ b0 ≤ 239 then (if 2 < N ∧ loB b0 ≤ b1 ∧ b1 ≤ hiE b0 ∧ 128 ≤ b2 ∧ b2 < 192 then some 2 else none)
 else if 240 ≤ b0 ∧ b0 ≤ 244 then (if 3 < N ∧ loB b0 ≤ b1 ∧ b1 ≤ hiE b0 ∧ 128 ≤ b2 ∧ b2 < 192 ∧ 128 ≤ b3 ∧ b3 < 192 then some 3 else none)
 else none
def isBad (N b0 b1 b2 : Nat) : Prop := 3 ≤ N ∧ b0 = 239 ∧ b1 = 191 ∧ b2 = 189
set_option maxHeartbeats 4000000 in
theorem dec_some {N b0 b1 b2 b3 k : Nat} (h0 : b0 < 256) (h1 : b1 < 256) (h2 : b2 < 256) (h3 : b3 < 256) (h : refOK N b0 b1 b2 b3 = some k) : (Lib.decodeN N b0 b1 b2 b3).2 = k + 1 ∧ ((Lib.decodeN N b0 b1 b2 b3).1 = 65533 → isBad N b0 b1 b2) := by
 unfold refOK at h
 split at h
 ·injection h with h; subst h
  unfold Lib.decodeN
  rw [if_pos (by assumption)]
  exact ⟨rfl, fun e => by simp only at e; omega⟩
 ·split at h
  ·split at h
   ·injection h with h; subst h
    unfold Lib.decodeN
    rw [if_neg (by omega), if_pos (by omega), if_pos (by omega)]
    exact ⟨rfl, fun e => by simp only at e; omega⟩
   ·cases h
  ·split at h
   ·split at h
    ·injection h with h; subst h
     rename_i hc
     have hlo := loB_is b0
     have hhi := hiE_is b0
     have hb1 : b1 ≤ 191 := by omega
     unfold Lib.decodeN
     rw [if_neg (by omega), if_neg (by omega), if_pos (by omega), if_pos (by omega)]
     exact ⟨rfl, fun e => by simp only at e; unfold isBad; omega⟩
    ·cases h
   ·split at h
    ·split at h
     ·injection h with h; subst h
      rename_i hc
      have hlo := loB_is b0
      have hhi := hiE_is b0
      have hb1 : b1 ≤ 191 := by omega
      unfold Lib.decodeN
      rw [if_neg (by omega), if_neg (by omega), if_neg (by omega), if_pos (by omega), if_pos (by omega)]
      exact ⟨rfl, fun e => by simp only at e; omega⟩
     ·cases h
    ·cases h
set_option maxHeartbeats 4000000 in
theorem dec_none {N b0 b1 b2 b3 : Nat} (h0 : b0 < 256) (h1 : b1 < 256) (h2 : b2 < 256) (h3 : b3 < 256) (h : refOK N b0 b1 b2 b3 = none) : Lib.decodeN N b0 b1 b2 b3 = (65533, 1) ∧ ¬ isBad N b0 b1 b2 := by
 unfold refOK at h
 unfold isBad
 split at h
 ·cases h
 ·rename_i c0
  split at h
  ·rename_i c1
   split at h
   ·cases h
   ·rename_i c2
    unfold Lib.decodeN
    rw [if_neg c0, if_neg (by omega), if_neg (by omega), if_neg (by omega)]
    exact ⟨rfl, by omega⟩
  ·rename_i c1
   split at h
   ·rename_i c2
    split at h
    ·cases h
    ·rename_i c3
     have hlo := loB_is b0
     have hhi := hiE_is b0
     unfold Lib.decodeN
     rw [if_neg c0, if_neg (by omega)]
     refine ⟨?_, by omega⟩
     split
     ·rw [if_neg (by omega)]
     ·rw [if_neg (by omega)]
   ·rename_i c2
    split at h
    ·rename_i c3
     split at h
     ·cases h
     ·rename_i c4
      have hlo := loB_is b0
      have hhi := hiE_is b0
      unfold Lib.decodeN
      rw [if_neg c0, if_neg (by omega), if_neg (by omega)]
      refine ⟨?_, by omega⟩
      split
      ·rw [if_neg (by omega)]
      ·rfl
    ·rename_i c3
     unfold Lib.decodeN
     refine ⟨?_, by omega⟩
     rw [if_neg c0]
     split
     ·rw [if_neg (by omega)]
     ·split
      ·rw [if_neg (by omega)]
      ·split
       ·rw [if_neg (by omega)]
       ·rfl
def stp3 (a : List UInt8) (i : Nat) : Option Nat := refOK (a.length - i) (a.getD i 0).toNat (a.getD (i + 1) 0).toNat (a.getD (i + 2) 0).toNat (a.getD (i + 3) 0).toNat
theorem get!_D (a : List UInt8) (i : Nat) : (⟨a.toArray⟩ : ByteArray).get! i = a.getD i 0 := by
 show a.toArray[i]! = _
 rw [List.getElem!_toArray, List.getElem!_eq_getElem?_getD, List.getD_eq_getElem?_getD]; rfl
theorem dec_at (a : List UInt8) (i : Nat) : Utf8.decode ⟨a.toArray⟩ i = Lib.decodeN (a.length - i) (a.getD i 0).toNat (a.getD (i + 1) 0).toNat (a.getD (i + 2) 0).toNat (a.getD (i + 3) 0).toNat := by
 rw [Lib.decode_at, get!_D, get!_D, get!_D, get!_D]; rfl
theorem preF_drop (a : List UInt8) (i : Nat) (hi : i < a.length) : preF (a.drop i) = true ↔ isBad (a.length - i) (a.getD i 0).toNat (a.getD (i + 1) 0).toNat (a.getD (i + 2) 0).toNat := by
 unfold preF isBad
 rw [beq_iff_eq]
 have e : ∀ (x : UInt8) (k : Nat), k < 256 → (x.toNat = k ↔ x = UInt8.ofNat k) := fun x k hk => by
  rw [← UInt8.toNat_inj]; simp [Nat.mod_eq_of_lt hk]
 rw [e _ _ (by decide), e _ _ (by decide), e _ _ (by decide)]
 constructor
 ·intro h
  have hl := congrArg List.length h
  rw [List.length_take, List.length_drop] at hl
  have h3 : 3 ≤ a.length - i := by simp at hl; omega
  rw [drop_at (z := 0) hi, drop_at (z := 0) (show i + 1 < a.length by omega), drop_at (z := 0) (show i + 1 + 1 < a.length by omega)] at h
  simp only [List.take_succ_cons, List.take_zero, List.cons.injEq, and_true] at h
  exact ⟨h3, h.1, h.2.1, h.2.2⟩
 ·rintro ⟨h3, h4, h5, h6⟩
  rw [drop_at (z := 0) hi, drop_at (z := 0) (show i + 1 < a.length by omega), drop_at (z := 0) (show i + 1 + 1 < a.length by omega), h4, h5, h6]; rfl
theorem ext_drop (a : List UInt8) (i : Nat) : ((⟨a.toArray⟩ : ByteArray).extract i (⟨a.toArray⟩ : ByteArray).size).data.toList = a.drop i := by
 rw [show (⟨a.toArray⟩ : ByteArray).size = a.length from rfl]
 simp [ByteArray.data_extract, List.take_of_length_le]
theorem pts_step (a : List UInt8) (f i : Nat) (hi : i < a.length) : ptsFrom ⟨a.toArray⟩ (f + 1) i = match stp3 a i with | none => false | some k => ptsFrom ⟨a.toArray⟩ f (i + (k + 1)) := by
 have b := fun j => (a.getD j 0).toNat_lt
 rw [ptsFrom, if_pos (show i < (⟨a.toArray⟩ : ByteArray).size from hi), ext_drop, dec_at]
 unfold stp3
 cases h : refOK (a.length - i) (a.getD i 0).toNat (a.getD (i + 1) 0).toNat (a.getD (i + 2) 0).toNat (a.getD (i + 3) 0).toNat with
 | none =>
  obtain ⟨h1, h2⟩ := dec_none (b _) (b _) (b _) (b _) h
  rw [h1, if_pos ⟨rfl, by rw [Bool.eq_false_iff]; exact fun e => h2 ((preF_drop a i hi).1 e)⟩]
 | some k =>
  obtain ⟨h1, h2⟩ := dec_some (b _) (b _) (b _) (b _) h
  rw [h1, if_neg (fun ⟨e1, e2⟩ => by rw [(preF_drop a i hi).2 (h2 e1)] at e2; cases e2)]
def lat (x : UInt8) : Bool := decide (128 ≤ x) && decide (x < 192)
theorem rlater_is (n : Nat) (x : UInt8) : rlater n x = some (lat x) := by
 unfold rlater lat
 by_cases h : 128 ≤ x
 ·rw [ite_t (decide_eq_true h), decide_eq_true h, Bool.true_and]
 ·rw [ite_f (decide_eq_false h), decide_eq_false h]; rfl
theorem lat_iff (x : UInt8) : lat x = true ↔ 128 ≤ x.toNat ∧ x.toNat < 192 := by
 unfold lat
 rw [Bool.and_eq_true, decide_eq_true_eq, decide_eq_true_eq, UInt8.le_iff_toNat_le, UInt8.lt_iff_toNat_lt]; rfl
open Classical in
theorem l23_is (f : Nat → Int → Option Bool) (n : Nat) (a : List UInt8) (ha : a.length ≤ 100000) (i nn : Nat) (hnn : nn ≤ 3) (hi : i + nn < a.length) (K : Int → Option Bool)
  (hf : ∀ fu j, f (fu + 1) j = bif (decide (j ≤ (nn : Int))) then gd (okI .i64 ((i : Int) + j)) (gd (0 ≤ ((i : Int) + j)) (gd (((i : Int) + j) < ((a.length : Nat) : Int)) ((rlater n (a.getD (((i : Int) + j).toNat) 0)).bind fun r => bif (!r) then some false else gd (okI .i64 (j + 1)) (f fu (j + 1)))))
   else gd (okI .i64 ((i : Int) + 1)) (gd (okI .i64 (((i : Int) + 1) + (nn : Int))) (K (((i : Int) + 1) + (nn : Int))))) :
  ∀ (m j fu : Nat), j + m = 4 → 2 ≤ j → m < fu → f fu (j : Int) = if ∀ q, j ≤ q → q ≤ nn → lat (a.getD (i + q) 0) = true then K (((i + (nn + 1) : Nat) : Int)) else some false := by
 intro m
 have he : (((i : Int) + 1) + (nn : Int)) = ((i + (nn + 1) : Nat) : Int) := by omega
 induction m with
 | zero =>
  intro j fu hj h2 hf'
  cases fu with
  | zero => omega
  | succ fu =>
   rw [hf, ite_f (decide_eq_false (by omega)), gd_pos (okI64 (by omega) (by omega)), gd_pos (okI64 (by omega) (by omega)), he, if_pos (fun q h1 h2 => by omega)]
 | succ m ih =>
  intro j fu hj h2 hf'
  cases fu with
  | zero => omega
  | succ fu =>
   by_cases hle : j ≤ nn
   ·have et : ((i : Int) + (j : Int)).toNat = i + j := by omega
    rw [hf, ite_t (decide_eq_true (by omega)), gd_pos (okI64 (by omega) (by omega)), gd_pos (by omega), gd_pos (by omega), et, rlater_is, Option.bind_some]
    cases hl : lat (a.getD (i + j) 0) with
    | false =>
     rw [ite_t (by rfl), if_neg (fun h => by rw [h j (Nat.le_refl _) hle] at hl; cases hl)]
    | true =>
     rw [ite_f (by rfl), gd_pos (okI64 (by omega) (by omega))]
     have := ih (j + 1) fu (by omega) (by omega) (by omega)
     refine this.trans ?_
     by_cases hc : ∀ q, j + 1 ≤ q → q ≤ nn → lat (a.getD (i + q) 0) = true
     ·rw [if_pos hc, if_pos (fun q h1 h2 => by
       rcases Nat.lt_or_ge j q with h3 | h3
       ·exact hc q h3 h2
       ·obtain rfl : q = j := by omega
        exact hl)]
     ·rw [if_neg hc, if_neg (fun h => hc fun q h1 h2 => h q (by omega) h2)]
   ·rw [hf, ite_f (decide_eq_false (by omega)), gd_pos (okI64 (by omega) (by omega)), gd_pos (okI64 (by omega) (by omega)), he, if_pos (fun q h1 h2 => by omega)]
open Classical in
theorem j5_is {n : Nat} (hn : 100 ≤ n) (a : List UInt8) (ha : a.length ≤ 100000) (i nn lo hi : Nat) (hnn : nn ≤ 3) (hi2 : i < a.length) (K : Int → Option Bool) :
  rPoints_j5 n a (i : Int) (nn : Int) (lo : Int) K (hi : Int) = if i + nn < a.length ∧ (nn = 0 ∨ (lo ≤ (a.getD (i + 1) 0).toNat ∧ (a.getD (i + 1) 0).toNat ≤ hi)) ∧ (∀ q, 2 ≤ q → q ≤ nn → lat (a.getD (i + q) 0) = true) then K (((i + (nn + 1) : Nat) : Int)) else some false := by
 unfold rPoints_j5
 rw [gd_pos (okI64 (by omega) (by omega))]
 by_cases h1 : i + nn < a.length
 ·rw [ite_f (decide_eq_false (by omega))]
  have e1 : ((i : Int) + 1).toNat = i + 1 := by omega
  by_cases h0 : nn = 0
  ·subst h0
   rw [ite_f (decide_eq_false (by omega))]
   rw [show (2 : Int) = ((2 : Nat) : Int) from rfl, l23_is (rPoints_l3 n a (i : Int) ((0 : Nat) : Int) K) n a ha i 0 (by omega) h1 K (fun fu j => rfl) 2 2 n rfl (by omega) (by omega)]
   rw [if_pos (fun q h1 h2 => by omega), if_pos ⟨h1, .inl rfl, fun q h1 h2 => by omega⟩]
  ·rw [ite_t (decide_eq_true (by omega)), gd_pos (okI64 (by omega) (by omega)), gd_pos (by omega), gd_pos (by omega), e1]
   by_cases h2 : (a.getD (i + 1) 0).toNat < lo
   ·rw [ite_t (decide_eq_true (by omega)), if_neg (fun h => by have := h.2.1; omega)]
   ·rw [ite_f (decide_eq_false (by omega)), gd_pos (okI64 (by omega) (by omega)), gd_pos (by omega), gd_pos (by omega)]
    by_cases h3 : hi < (a.getD (i + 1) 0).toNat
    ·rw [ite_t (decide_eq_true (by omega)), if_neg (fun h => by have := h.2.1; omega)]
    ·rw [ite_f (decide_eq_false (by omega))]
     rw [show (2 : Int) = ((2 : Nat) : Int) from rfl, l23_is (rPoints_l2 n a (i : Int) (nn : Int) K) n a ha i nn hnn h1 K (fun fu j => rfl) 2 2 n rfl (by omega) (by omega)]
     by_cases hc : ∀ q, 2 ≤ q → q ≤ nn → lat (a.getD (i + q) 0) = true
     ·rw [if_pos hc, if_pos ⟨h1, .inr ⟨by omega, by omega⟩, hc⟩]
     ·rw [if_neg hc, if_neg (fun h => hc h.2.2)]
 ·rw [ite_t (decide_eq_true (by omega)), if_neg (fun h => h1 h.1)]
theorem j1_is (n : Nat) (a : List UInt8) (i : Nat) (K : Int → Option Bool) (nn : Int) : rPoints_j1 n a (i : Int) K nn = rPoints_j5 n a (i : Int) nn ((loB (a.getD i 0).toNat : Nat) : Int) K ((hiE (a.getD i 0).toNat : Nat) : Int) := by
 unfold rPoints_j1 rPoints_j2 rPoints_j3 rPoints_j4
 rw [Int.toNat_natCast]
 generalize (a.getD i 0).toNat = b
 have key : ∀ k : Nat, (((b : Int)) == (k : Int)) = decide (b = k) := fun k => by
  by_cases h : b = k
  ·subst h; simp
  ·rw [decide_eq_false h, beq_eq_false_iff_ne]; omega
 have k1 : ((b : Int) == 224) = decide (b = 224) := key 224
 have k2 : ((b : Int) == 237) = decide (b = 237) := key 237
 have k3 : ((b : Int) == 240) = decide (b = 240) := key 240
 have k4 : ((b : Int) == 244) = decide (b = 244) := key 244
 rw [k1, k2, k3, k4]
 unfold loB hiE
 by_cases h1 : b = 224
 ·subst h1; rfl
 ·by_cases h2 : b = 237
  ·subst h2; rfl
  ·by_cases h3 : b = 240
   ·subst h3; rfl
   ·by_cases h4 : b = 244
    ·subst h4; rfl
    ·rw [decide_eq_false h1, decide_eq_false h2, decide_eq_false h3, decide_eq_false h4, if_neg h1, if_neg h3, if_neg h2, if_neg h4]; rfl
open Classical in
theorem pt_step {n : Nat} (hn : 100 ≤ n) (a : List UInt8) (ha : a.length ≤ 100000) (fu i : Nat) (hi : i < a.length) : rPoints_l1 n a (fu + 1) (i : Int) = match stp3 a i with | none => some false | some k => rPoints_l1 n a fu ((i + (k + 1) : Nat) : Int) := by
 have hj : ∀ nn : Nat, nn ≤ 3 → rPoints_j1 n a (i : Int) (rPoints_l1 n a fu) (nn : Int) = if i + nn < a.length ∧ (nn = 0 ∨ (loB (a.getD i 0).toNat ≤ (a.getD (i + 1) 0).toNat ∧ (a.getD (i + 1) 0).toNat ≤ hiE (a.getD i 0).toNat)) ∧ (∀ q, 2 ≤ q → q ≤ nn → lat (a.getD (i + q) 0) = true) then rPoints_l1 n a fu (((i + (nn + 1) : Nat) : Int)) else some false := fun nn hnn => by
  rw [j1_is, j5_is hn a ha i nn _ _ hnn hi]
 have j0 := hj 0 (by omega); have j1 := hj 1 (by omega); have j2 := hj 2 (by omega); have j3 := hj 3 (by omega)
 clear hj
 have l2 := lat_iff (a.getD (i + 2) 0); have l3 := lat_iff (a.getD (i + 3) 0)
 rw [rPoints_l1, ite_t (decide_eq_true (by omega)), gd_pos (by omega), gd_pos (by omega), Int.toNat_natCast]
 unfold stp3 refOK
 have hb := loB_is (a.getD i 0).toNat; have he := hiE_is (a.getD i 0).toNat
 generalize hG : rPoints_l1 n a fu = G at *
 have j0' : rPoints_j1 n a (i : Int) G 0 = _ := j0
 have j1' : rPoints_j1 n a (i : Int) G 1 = _ := j1
 have j2' : rPoints_j1 n a (i : Int) G 2 = _ := j2
 have j3' : rPoints_j1 n a (i : Int) G 3 = _ := j3
 clear j0 j1 j2 j3
 generalize (a.getD i 0).toNat = b0 at *
 by_cases c0 : b0 < 128
 ·rw [ite_t (decide_eq_true (by omega)), if_pos c0, j0', if_pos ⟨by omega, .inl rfl, fun q h1 h2 => by omega⟩]
 ·rw [ite_f (decide_eq_false (by omega)), if_neg c0]
  by_cases c1 : 194 ≤ b0 ∧ b0 ≤ 223
  ·rw [ite_t (decide_eq_true (by omega)), ite_t (decide_eq_true (by omega)), if_pos c1, j1']
   by_cases c2 : 1 < a.length - i ∧ 128 ≤ (a.getD (i + 1) 0).toNat ∧ (a.getD (i + 1) 0).toNat ≤ 191
   ·rw [if_pos c2, if_pos ⟨by omega, .inr ⟨by omega, by omega⟩, fun q h1 h2 => by omega⟩]
   ·rw [if_neg c2, if_neg (fun h => c2 (by have := h.1; have := h.2.1; omega))]
  ·rw [if_neg c1]
   have step2 : (bif (decide ((224 : Int) ≤ ((b0 : Nat) : Int))) then
      bif (decide (((b0 : Nat) : Int) ≤ (239 : Int))) then rPoints_j1 n a (i : Int) G 2
      else bif (decide ((240 : Int) ≤ ((b0 : Nat) : Int))) then bif (decide (((b0 : Nat) : Int) ≤ (244 : Int))) then rPoints_j1 n a (i : Int) G 3 else some false else some false
     else bif (decide ((240 : Int) ≤ ((b0 : Nat) : Int))) then bif (decide (((b0 : Nat) : Int) ≤ (244 : Int))) then rPoints_j1 n a (i : Int) G 3 else some false else some false) =
     (match (if 224 ≤ b0 ∧ b0 ≤ 239 then (if 2 < a.length - i ∧ loB b0 ≤ (a.getD (i + 1) 0).toNat ∧ (a.getD (i + 1) 0).toNat ≤ hiE b0 ∧ 128 ≤ (a.getD (i + 2) 0).toNat ∧ (a.getD (i + 2) 0).toNat < 192 then some 2 else none)
      else if 240 ≤ b0 ∧ b0 ≤ 244 then (if 3 < a.length - i ∧ loB b0 ≤ (a.getD (i + 1) 0).toNat ∧ (a.getD (i + 1) 0).toNat ≤ hiE b0 ∧ 128 ≤ (a.getD (i + 2) 0).toNat ∧ (a.getD (i + 2) 0).toNat < 192 ∧ 128 ≤ (a.getD (i + 3) 0).toNat ∧ (a.getD (i + 3) 0).toNat < 192 then some 3 else none)
      else none : Option Nat) with | none => some false | some k => G ((i + (k + 1) : Nat) : Int)) := by
    by_cases c2 : 224 ≤ b0 ∧ b0 ≤ 239
    ·rw [ite_t (decide_eq_true (by omega)), ite_t (decide_eq_true (by omega)), if_pos c2, j2']
     by_cases c3 : 2 < a.length - i ∧ loB b0 ≤ (a.getD (i + 1) 0).toNat ∧ (a.getD (i + 1) 0).toNat ≤ hiE b0 ∧ 128 ≤ (a.getD (i + 2) 0).toNat ∧ (a.getD (i + 2) 0).toNat < 192
     ·rw [if_pos c3, if_pos ⟨by omega, .inr ⟨c3.2.1, c3.2.2.1⟩, fun q h1 h2 => by
       obtain rfl : q = 2 := by omega
       exact l2.2 c3.2.2.2⟩]
     ·rw [if_neg c3, if_neg (fun h => c3 (by have h2 := l2.1 (h.2.2 2 (by omega) (by omega)); have := h.1; have := h.2.1; omega))]
    ·by_cases c3 : 240 ≤ b0 ∧ b0 ≤ 244
     ·rw [ite_t (decide_eq_true (by omega)), ite_f (decide_eq_false (by omega)), ite_t (decide_eq_true (by omega)), ite_t (decide_eq_true (by omega)), if_neg c2, if_pos c3, j3']
      by_cases c4 : 3 < a.length - i ∧ loB b0 ≤ (a.getD (i + 1) 0).toNat ∧ (a.getD (i + 1) 0).toNat ≤ hiE b0 ∧ 128 ≤ (a.getD (i + 2) 0).toNat ∧ (a.getD (i + 2) 0).toNat < 192 ∧ 128 ≤ (a.getD (i + 3) 0).toNat ∧ (a.getD (i + 3) 0).toNat < 192
      ·rw [if_pos c4, if_pos ⟨by omega, .inr ⟨c4.2.1, c4.2.2.1⟩, fun q h1 h2 => by
        rcases (show q = 2 ∨ q = 3 by omega) with rfl | rfl
        ·exact l2.2 ⟨c4.2.2.2.1, c4.2.2.2.2.1⟩
        ·exact l3.2 c4.2.2.2.2.2⟩]
      ·rw [if_neg c4, if_neg (fun h => c4 (by have h2 := l2.1 (h.2.2 2 (by omega) (by omega)); have h3 := l3.1 (h.2.2 3 (by omega) (by omega)); have := h.1; have := h.2.1; omega))]
     ·rw [if_neg c2, if_neg c3]
      by_cases c4 : 224 ≤ b0
      ·rw [ite_t (decide_eq_true (by omega)), ite_f (decide_eq_false (by omega)), ite_t (decide_eq_true (by omega)), ite_f (decide_eq_false (by omega))]
      ·rw [ite_f (decide_eq_false (by omega)), ite_f (decide_eq_false (by omega))]
   by_cases c2 : 194 ≤ b0
   ·rw [ite_t (decide_eq_true (by omega)), ite_f (decide_eq_false (by omega))]
    exact step2
   ·rw [ite_f (decide_eq_false (by omega))]
    exact step2
theorem points_eq {n : Nat} (hn : 100 ≤ n) (a : List UInt8) (ha : a.length ≤ 100000) : ∀ (m i f g : Nat), a.length ≤ i + m → m < f → m < g → rPoints_l1 n a f (i : Int) = some (ptsFrom ⟨a.toArray⟩ g i) := by
 intro m
 induction m with
 | zero =>
  intro i f g hi hf hg
  cases f with
  | zero => omega
  | succ f =>
   cases g with
   | zero => omega
   | succ g => rw [rPoints_l1, ite_f (decide_eq_false (by omega)), ptsFrom, if_neg (by show ¬ i < a.length; omega)]
 | succ m ih =>
  intro i f g hi hf hg
  cases f with
  | zero => omega
  | succ f =>
   cases g with
   | zero => omega
   | succ g =>
    by_cases hlt : i < a.length
    ·rw [pt_step hn a ha f i hlt, pts_step a g i hlt]
     cases stp3 a i with
     | none => rfl
     | some k => exact ih (i + (k + 1)) f g (by omega) (by omega) (by omega)
    ·rw [rPoints_l1, ite_f (decide_eq_false (by omega)), ptsFrom, if_neg (by show ¬ i < a.length; omega)]
theorem rPoints_is {n : Nat} (a : List UInt8) (ha : a.length ≤ 2000) (hn : 3000 ≤ n) : rPoints n a = some (ptsF a) :=
 points_eq (by omega) a (by omega) a.length 0 n (a.length + 1) (by omega) (by omega) (by omega)
def txOk (m : UInt8) (a : List UInt8) : Bool := if m = 12 then ptsF a else !(a.any prtN)
theorem txOk12 (a : List UInt8) : txOk 12 a = ptsF a := if_pos rfl
theorem txOk19 (a : List UInt8) : txOk 19 a = !(a.any prtN) := if_neg (by decide)
theorem pText_is {n : Nat} {m : UInt8} (hm : m = 12 ∨ m = 19) (a : List UInt8) (ha : a.length ≤ 2000) : pText n m a = some (if txOk m a = true then none else some 2) := by
 rcases hm with rfl | rfl
 ·rw [txOk12]
  unfold pText
  rw [ite_t (by rfl), gd_pos (by omega)]
  unfold pText_j1
  cases ptsF a <;> rfl
 ·rw [txOk19]
  unfold pText
  rw [ite_f (by rfl), ite_t (by rfl)]
  unfold pText_j1
  cases a.any prtN <;> rfl
theorem rText_is {n : Nat} {m : UInt8} (hm : m = 12 ∨ m = 19) (a : List UInt8) (ha : a.length ≤ 2000) (hn : 3000 ≤ n) : rText n m a = some (txOk m a) := by
 rcases hm with rfl | rfl
 ·rw [txOk12]
  unfold rText
  rw [ite_t (by rfl), rPoints_is a (by omega) hn]; rfl
 ·rw [txOk19]
  unfold rText
  rw [ite_f (by rfl)]
  have := rText_l1_is (n := n) (by omega) (mk := 19) (a := a) (by omega) (.inl rfl) a.length 0 n (by omega) (by omega)
  rw [List.drop_zero, if_pos rfl] at this
  exact this
end Go.Sx
end
section
namespace Go.Proofs.YtiojofjllkhbhaaGreat
open Go.RowKit Go.Ch Go.Sx
theorem cloneb_info : (Tryz.prog.info? 5).map (fun i => (i.zero, i.size, i.bytes)) = some (some (.int .u8 0), 1, 1) := by kernel_rfl
set_option maxHeartbeats 400000 in
set_option maxRecDepth 100000 in
theorem cloneb_c (w : World) (B : Nat) (v : Value) (l : List UInt8) (hv : Sl w B v (l.map bU)) (hl : l.length ≤ 1000000000000) :
  Calls Tryz.prog 43 #[v] w (Ret fun v' w' => Ext w w' ∧ Own w' w.heap.size 5 v' (l.map bU)) := by
 obtain ⟨i5, hi5, hz5, hs5, hb5⟩ := info_parts cloneb_info
 go_enter Tryz.func43, Tryz.ntmps43
 go_wp2_with (first
  | ((with_reducible refine g_at (d := 4) ?_); refine wpl_eq_nil rfl Tryz.underlying32 hv ?_; intro b4 hb4; try (conv in (Act.put _ _ _) => simp only [Act.put, List.setIfInBounds_toArray, List.set_cons_succ, List.set_cons_zero]))
  | ((with_reducible refine g_at (d := 5) ?_); refine wpl_buildSlice (vs := []) Tryz.underlying32 hi5 hz5 hs5 rfl (xs := []) rfl rfl rfl (by simp) (by omega) ?_; intro v5 w5 h5 hx5 ha5; try (conv in (Act.put _ _ _) => simp only [Act.put, List.setIfInBounds_toArray, List.set_cons_succ, List.set_cons_zero]))
  | ((with_reducible refine g_at (d := 7) ?_); refine wpl_append (v := v5) rfl rfl Tryz.underlying32 hi5 hz5 hs5 hb5 rfl h5 (hv.ext hx5) (bU_one l) (by first | omega | (simp <;> omega)) (by omega) hx5.size ?_; intro v7 w7 h7 hg7 ha7 hx7; try (conv in (Act.put _ _ _) => simp only [Act.put, List.setIfInBounds_toArray, List.set_cons_succ, List.set_cons_zero])))
 ·go_ret
  have := hb4 (by assumption)
  exact ⟨_, rfl, Below.refl _ _, by rw [this]; exact World.ownsRow_nil _ _ _ _⟩
 ·go_ret
  exact ⟨_, rfl, hx5.trans hx7, by simpa using h7⟩
def cloneb_ct : Ct := fun args H => match args with
 | [x] => (match aB H x with | some l => some ([l.length ≤ 1000000000000], .c (.wh H.length), [⟨.row, 5, 1, l.length, .b l⟩]) | none => none)
 | _ => none
theorem cloneb_h : FnOk Tryz.prog Tr 43 cloneb_ct := by
 refine ⟨fun args H g av objs hF hg ρ w vals hG hp ha => ?_, _, Tryz.func43, by kernel_rfl, by kernel_rfl⟩
 unfold cloneb_ct at hF
 split at hF
 ·split at hF
  ·rename_i x l hl
   simp only [Option.some.injEq, Prod.mk.injEq] at hF
   obtain ⟨rfl, rfl, rfl⟩ := hF
   obtain ⟨v, vals, rfl, k, ha⟩ := F2.inv ha
   obtain rfl := F2.inv0 ha
   obtain ⟨p, hI⟩ := aB_ok hp hl k 5
   have hb : l.length ≤ 1000000000000 := by simpa [allP] using hg
   exact calls_mono (cloneb_c w _ v l (hI.sl (fun _ _ h => csR_b.1 h) (by simp)) hb) fun v w' ⟨hx, hv⟩ => ⟨hx, left_row hv (fun _ => csR_b.2 rfl) (by simp)⟩
  ·cases hF
 ·cases hF
end Go.Proofs.YtiojofjllkhbhaaGreat
end
section
namespace Go.Proofs.YtiojofjllkhbhaaGreat
open Go.RowKit Go.Ch Go.Sx
def tabL_nra : List (TypeId × Ti) := [(3, ⟨.int .i64, 1, 8, true, some [.int .i64]⟩),
 (5, ⟨.int .u8, 1, 1, true, some [.int .u8]⟩),
 (32, ⟨.sl 5, 1, 24, false, some [.nils]⟩),
 (37, ⟨.int .i64, 1, 8, true, some [.int .i64]⟩),
 (55, ⟨.sl 3, 1, 24, false, some [.nils]⟩),
 (70, ⟨.ptr 102, 1, 8, true, some [.ptr]⟩),
 (102, ⟨.st [(32, 0), (3, 1), (55, 2)], 3, 56, false, some [.nils, .int .i64, .nils]⟩)]
def tab_nra : Tab := fun t => (tabL_nra).lookup t
theorem tabE_nra : (tabL_nra.map fun p => tiOf Tryz.prog p.1) = tabL_nra.map fun p => some p.2 := by kernel_rfl
theorem tabO_nra : TabOk Tryz.prog tab_nra := tab_of tabE_nra
def tvalid (n : Nat) (a0 : UInt8) : Option (Bool) :=
 some ((a0 &&& (31 : UInt8)) != 31)
def tisW (n : Nat) (a0 : UInt8) : Option (Bool) :=
 some ((a0 &&& (32 : UInt8)) != 0)
def thead_j1 (n : Nat) (a0 : List UInt8) (i5_1 : Int) (i6_4 : Int) : Option (Int × Int × Bool) :=
 gd (okI .i64 (((a0.length : Nat) : Int) - i5_1)) <|
 some (i5_1, i6_4, (decide (i6_4 ≤ (((a0.length : Nat) : Int) - i5_1))))
def thead_l1 (n : Nat) (a0 : List UInt8) : Nat → Int → Int → Option (Int × Int × Bool)
 | 0, _, _ => none
 | fu_l1 + 1, i6_5, i47_3 =>
 bif (decide (i47_3 < (((((2 + ((((a0.getD 1 0).toNat : Nat) : Int) - 128)).toNat) - 2) : Nat) : Int))) then
 gd (0 ≤ i47_3) <|
 gd (i47_3 < (((((2 + ((((a0.getD 1 0).toNat : Nat) : Int) - 128)).toNat) - 2) : Nat) : Int)) <|
 gd (0 ≤ (8 : Int)) <|
 gd ((8 : Int) ≤ (((IntKind.i64).bits : Nat) : Int)) <|
 gd (okI .i64 (i6_5 * 2 ^ 8)) <|
 gd (okI .i64 (i47_3 + 1)) <|
 (thead_l1 n a0 fu_l1) (bitI .or .i64 (i6_5 * 2 ^ 8) (((((a0.drop 2).take (((2 + ((((a0.getD 1 0).toNat : Nat) : Int) - 128)).toNat) - 2)).getD i47_3.toNat 0).toNat : Nat) : Int)) (i47_3 + 1)
 else
 bif (decide (i6_5 < (128 : Int))) then
 some (0, 0, false)
 else
 bif (((((a0.getD 1 0).toNat : Nat) : Int) - 128) == 2) then
 bif (decide (i6_5 < (256 : Int))) then
 some (0, 0, false)
 else
 thead_j1 n a0 (2 + ((((a0.getD 1 0).toNat : Nat) : Int) - 128)) i6_5
 else
 thead_j1 n a0 (2 + ((((a0.getD 1 0).toNat : Nat) : Int) - 128)) i6_5
def thead (n : Nat) (a0 : List UInt8) : Option (Int × Int × Bool) :=
 bif (decide (((a0.length : Nat) : Int) < (2 : Int))) then
  some (0, 0, false)
 else
  gd (0 ≤ (0 : Int)) <|
  gd ((0 : Int) < ((a0.length : Nat) : Int)) <|
  (tvalid n (a0.getD 0 0)).bind fun r17 =>
  bif (!r17) then
   some (0, 0, false)
  else
   gd (0 ≤ (1 : Int)) <|
   gd ((1 : Int) < ((a0.length : Nat) : Int)) <|
   bif (decide ((128 : Int) ≤ (((a0.getD 1 0).toNat : Nat) : Int))) then
    gd (okI .i64 ((((a0.getD 1 0).toNat : Nat) : Int) - 128)) <|
    bif (decide (((((a0.getD 1 0).toNat : Nat) : Int) - 128) < (1 : Int))) then
     some (0, 0, false)
    else
     bif (decide ((2 : Int) < ((((a0.getD 1 0).toNat : Nat) : Int) - 128))) then
      some (0, 0, false)
     else
      gd (okI .i64 (2 + ((((a0.getD 1 0).toNat : Nat) : Int) - 128))) <|
      bif (decide (((a0.length : Nat) : Int) < (2 + ((((a0.getD 1 0).toNat : Nat) : Int) - 128)))) then
       some (0, 0, false)
      else
       gd (okI .i64 (2 + ((((a0.getD 1 0).toNat : Nat) : Int) - 128))) <|
       gd (0 ≤ (2 : Int)) <|
       gd ((2 : Int) ≤ (2 + ((((a0.getD 1 0).toNat : Nat) : Int) - 128))) <|
       gd ((2 + ((((a0.getD 1 0).toNat : Nat) : Int) - 128)) ≤ ((a0.length : Nat) : Int)) <|
       thead_l1 n a0 n 0 0
   else
    thead_j1 n a0 2 (((a0.getD 1 0).toNat : Nat) : Int)
def tHead (n : Nat) (a0 : UInt8) (a1 : Int) : Option (List UInt8 × Option Int) :=
 (tvalid n a0).bind fun r8 =>
 bif (!r8) then
  some ([], (some 1))
 else
  bif (decide (a1 < (0 : Int))) then
   some ([], (some 1))
  else
   bif (decide ((65535 : Int) < a1)) then
    some ([], (some 4))
   else
    bif (decide (a1 < (128 : Int))) then
     some ([a0, (UInt8.ofInt a1)], none)
    else
     bif (decide (a1 < (256 : Int))) then
      some ([a0, 129, (UInt8.ofInt a1)], none)
     else
      gd (0 ≤ (8 : Int)) <|
      gd ((8 : Int) ≤ (((IntKind.i64).bits : Nat) : Int)) <|
      some ([a0, 130, (UInt8.ofInt (a1 / 2 ^ 8)), (UInt8.ofInt a1)], none)
def tNewR (n : Nat) (a0 : List UInt8) : Option (List UInt8 × List Int) :=
 gd ((a0).length ≤ 1000000000000) <|
 some (a0, [((a0.length : Nat) : Int)])
def tleft (n : Nat) (a0_0 : List UInt8) (a0_1 : Int) (a0_2 : List Int) : Option (Nat × Nat) :=
 gd (okI .i64 (((a0_2.length : Nat) : Int) - 1)) <|
 gd (0 ≤ (((a0_2.length : Nat) : Int) - 1)) <|
 gd ((((a0_2.length : Nat) : Int) - 1) < ((a0_2.length : Nat) : Int)) <|
 gd (0 ≤ a0_1) <|
 gd (a0_1 ≤ (a0_2.getD ((((a0_2.length : Nat) : Int) - 1).toNat) 0)) <|
 gd ((a0_2.getD ((((a0_2.length : Nat) : Int) - 1).toNat) 0) ≤ ((a0_0.length : Nat) : Int)) <|
 some (a0_1.toNat, (((a0_2.getD ((((a0_2.length : Nat) : Int) - 1).toNat) 0).toNat) - a0_1.toNat))
def tNext (n : Nat) (a0_0 : List UInt8) (a0_1 : Int) (a0_2 : List Int) : Option (UInt8 × Bool) :=
 (tleft n a0_0 a0_1 a0_2).bind fun r6 =>
 bif (((r6.2 : Nat) : Int) == 0) then
  some (0, false)
 else
  gd (0 ≤ (0 : Int)) <|
  gd ((0 : Int) < ((r6.2 : Nat) : Int)) <|
  some ((a0_0.getD (oddA r6.1 0) 0), true)
def tEnter (n : Nat) (a0_0 : List UInt8) (a0_1 : Int) (a0_2 : List Int) (a1 : UInt8) : Option (Int × List Int × Option Int) :=
 (tleft n a0_0 a0_1 a0_2).bind fun r10 =>
 bif (((r10.2 : Nat) : Int) == 0) then
  some (a0_1, a0_2, (some 13))
 else
  gd (0 ≤ (0 : Int)) <|
  gd ((0 : Int) < ((r10.2 : Nat) : Int)) <|
  bif ((a0_0.getD (oddA r10.1 0) 0) != a1) then
   some (a0_1, a0_2, (some 6))
  else
   (thead n ((a0_0.drop r10.1).take r10.2)).bind fun r25 =>
   bif (!r25.2.2) then
    some (a0_1, a0_2, (some 2))
   else
    (tisW n a1).bind fun r34 =>
    bif (!r34) then
     some (a0_1, a0_2, (some 2))
    else
     bif (decide ((24 : Int) < ((a0_2.length : Nat) : Int))) then
      some (a0_1, a0_2, (some 5))
     else
      gd (okI .i64 (a0_1 + r25.1)) <|
      gd (okI .i64 ((a0_1 + r25.1) + r25.2.1)) <|
      gd (rmB (a0_2.length + 1) 8) <|
      some ((a0_1 + r25.1), (a0_2 ++ [((a0_1 + r25.1) + r25.2.1)]), none)
def tvalid_R (r : Bool) : S := ⟨[(2, kB r)], [], []⟩
def tvalid_ct (n : Nat) (r : Bool) : Ct := ctc rU8.rd fun _ l0 => ct0 fun H => ([tvalid n l0 = some r], shA H.length (kB r), shH H.length [])
theorem tvalid_ok (n : Nat) (r : Bool) : FnOk Tryz.prog Tr 74 (tvalid_ct n r) := by
 refine fnok Tryz.func74 ?_
 refine HO_c rU8 fun l0 _ => HO_0 tabO_nra (tvalid_R r) [.tmp 2] [] 6 Tryz.func74 fun w hG h => ?_
 unfold tvalid at h
 have hT := tabO_nra
 refine Vrs hT [] ⟨[(0, kU l0)], [], []⟩ ?_
 refine Vrs hT [] ⟨[(2, kB ((l0 &&& (31 : UInt8)) != 31))], [], []⟩ ?_
 refine Vc [] [] (tvalid_R ((l0 &&& (31 : UInt8)) != 31)) (W_ret ?_)
 exact ⟨.inl rfl, by cases h; rfl⟩
def tisW_R (r : Bool) : S := ⟨[(2, kB r)], [], []⟩
def tisW_ct (n : Nat) (r : Bool) : Ct := ctc rU8.rd fun _ l0 => ct0 fun H => ([tisW n l0 = some r], shA H.length (kB r), shH H.length [])
theorem tisW_ok (n : Nat) (r : Bool) : FnOk Tryz.prog Tr 86 (tisW_ct n r) := by
 refine fnok Tryz.func86 ?_
 refine HO_c rU8 fun l0 _ => HO_0 tabO_nra (tisW_R r) [.tmp 2] [] 6 Tryz.func86 fun w hG h => ?_
 unfold tisW at h
 have hT := tabO_nra
 refine Vrs hT [] ⟨[(0, kU l0)], [], []⟩ ?_
 refine Vrs hT [] ⟨[(2, kB ((l0 &&& (32 : UInt8)) != 0))], [], []⟩ ?_
 refine Vc [] [] (tisW_R ((l0 &&& (32 : UInt8)) != 0)) (W_ret ?_)
 exact ⟨.inl rfl, by cases h; rfl⟩
def thead_j1_E (a0 : List UInt8) (i5_1 : Int) (i6_4 : Int) : S := ⟨[(0, kH 0), (5, kI i5_1), (6, kI i6_4)], [], [ob 5 a0]⟩
abbrev thead_j1_P (n : Nat) (a0 : List UInt8) (r : Int × Int × Bool) : S → Prop := fun s => ∃ (i5_1 : Int), ∃ (i6_4 : Int), s = thead_j1_E a0 i5_1 i6_4 ∧ thead_j1 n a0 i5_1 i6_4 = some r
def thead_l1_E (a0 : List UInt8) (i6_5 : Int) (i47_3 : Int) : S := ⟨[(0, kH 0), (5, kI (2 + ((((a0.getD 1 0).toNat : Nat) : Int) - 128))), (6, kI i6_5), (7, kI ((((a0.getD 1 0).toNat : Nat) : Int) - 128)), (45, kH 1), (46, kI (((((2 + ((((a0.getD 1 0).toNat : Nat) : Int) - 128)).toNat) - 2) : Nat) : Int)), (47, kI i47_3)], [], [ob 5 a0, ⟨(.ro false), 5, 1, (((2 + ((((a0.getD 1 0).toNat : Nat) : Int) - 128)).toNat) - 2), .b ((a0.drop 2).take (((2 + ((((a0.getD 1 0).toNat : Nat) : Int) - 128)).toNat) - 2))⟩]⟩
abbrev thead_l1_P (n : Nat) (a0 : List UInt8) (r : Int × Int × Bool) (fu : Nat) : S → Prop := fun s => ∃ (i6_5 : Int), ∃ (i47_3 : Int), s = thead_l1_E a0 i6_5 i47_3 ∧ thead_l1 n a0 fu i6_5 i47_3 = some r
def thead_R (r : Int × Int × Bool) : S := ⟨[(2, kI r.1), (3, kI r.2.1), (4, kB r.2.2)], [], []⟩
def thead_ct (n : Nat) (r : Int × Int × Bool) : Ct := ctc (rB 5).rd fun _ l0 => ct0 fun H => ([thead n l0 = some r], shA H.length (.t [.c (.s (.k .i64 r.1)), .c (.s (.k .i64 r.2.1)), .c (.s (.b r.2.2))]), shH H.length [])
theorem thead_ok (n : Nat) (r : Int × Int × Bool) : FnOk Tryz.prog Tr 85 (thead_ct n r) := by
 refine fnok Tryz.func85 ?_
 refine HO_c (rB 5) fun l0 _ => HO_0 tabO_nra (thead_R r) [.tmp 2, .tmp 3, .tmp 4] [] 75 Tryz.func85 fun w hG h => ?_
 unfold thead at h
 have hT := tabO_nra
 refine Vrs hT [0] ⟨[(0, kH 0)], [], [ob 5 l0]⟩ ?_
 refine W_seq ?_
 refine W_seq ?_
 rcases Bool.eq_false_or_eq_true (decide (((l0.length : Nat) : Int) < (2 : Int))) with g1 | g1
 ·replace h := bif_t h g1
  refine Vg hT fN [(3, true)] [] [0] ⟨[(0, kH 0), (19, kB true)], [], [ob 5 l0]⟩ (aP g1 aN) ?_
  refine Vi (true) (fun _ => ?_) (fun hb => by cases hb)
  refine Vrs hT [] ⟨[(2, kI 0), (3, kI 0), (4, kB false)], [], []⟩ ?_
  refine Vc [] [] (thead_R (0, 0, false)) (W_ret ?_)
  exact ⟨.inl rfl, by cases h; rfl⟩
 ·replace h := bif_f h g1
  obtain ⟨g2, g3, h⟩ := gd2 h
  obtain ⟨r17, g4, h⟩ := bind_some' h
  refine Vg hT (fT 7 (tvalid_ok n r17) fN) [(3, false)] [] [0] ⟨[(0, kH 0), (19, kB (!r17))], [], [ob 5 l0]⟩ (aP g1 (aP g2 (aP g3 (aP g4 aN)))) ?_
  refine Vi ((!r17)) (fun g28 => ?_) (fun g28 => ?_)
  ·replace h := bif_t h g28
   refine Vrs hT [] ⟨[(2, kI 0), (3, kI 0), (4, kB false)], [], []⟩ ?_
   refine Vc [] [] (thead_R (0, 0, false)) (W_ret ?_)
   exact ⟨.inl rfl, by cases h; rfl⟩
  ·replace h := bif_f h g28
   refine W_skip ?_
   obtain ⟨g5, g6, h⟩ := gd2 h
   refine Vds hT fN 5 [] [(0, false), (5, false), (23, false)] [] [0] ⟨[(0, kH 0), (5, kI 2), (6, kI (((l0.getD 1 0).toNat : Nat) : Int))], [], [ob 5 l0]⟩ (aP g5 (aP g6 aN)) ?_
   refine W_join (thead_j1_P n l0 r) ?_ ?_
   ·rintro _ ⟨i5_1, i6_4, rfl, h⟩
    unfold thead_j1 at h
    obtain ⟨g7, h⟩ := gd_some h
    refine Vgs hT fN [] [] [] ⟨[(2, kI i5_1), (3, kI i6_4), (4, kB (decide (i6_4 ≤ (((l0.length : Nat) : Int) - i5_1))))], [], []⟩ (aP g7 aN) ?_
    refine Vc [] [] (thead_R (i5_1, i6_4, (decide (i6_4 ≤ (((l0.length : Nat) : Int) - i5_1))))) (W_ret ?_)
    exact ⟨.inl rfl, by cases h; rfl⟩
   ·refine W_seq ?_
    refine Vr hT [0] ⟨[(0, kH 0), (5, kI 2), (6, kI (((l0.getD 1 0).toNat : Nat) : Int)), (25, kB (decide ((128 : Int) ≤ (((l0.getD 1 0).toNat : Nat) : Int))))], [], [ob 5 l0]⟩ ?_
    refine Vi ((decide ((128 : Int) ≤ (((l0.getD 1 0).toNat : Nat) : Int)))) (fun g27 => ?_) (fun g27 => ?_)
    ·replace h := bif_t h g27
     obtain ⟨g8, h⟩ := gd_some h
     refine Vgs hT fN [] [] [0] ⟨[(0, kH 0), (7, kI ((((l0.getD 1 0).toNat : Nat) : Int) - 128))], [], [ob 5 l0]⟩ (aP g8 aN) ?_
     refine W_seq ?_
     refine W_seq ?_
     rcases Bool.eq_false_or_eq_true (decide (((((l0.getD 1 0).toNat : Nat) : Int) - 128) < (1 : Int))) with g9 | g9
     ·replace h := bif_t h g9
      refine Vg hT fN [(2, true)] [] [0] ⟨[(0, kH 0), (7, kI ((((l0.getD 1 0).toNat : Nat) : Int) - 128)), (40, kB true)], [], [ob 5 l0]⟩ (aP g9 aN) ?_
      refine Vi (true) (fun _ => ?_) (fun hb => by cases hb)
      refine Vrs hT [] ⟨[(2, kI 0), (3, kI 0), (4, kB false)], [], []⟩ ?_
      refine Vc [] [] (thead_R (0, 0, false)) (W_ret ?_)
      exact ⟨.inl rfl, by cases h; rfl⟩
     ·replace h := bif_f h g9
      rcases Bool.eq_false_or_eq_true (decide ((2 : Int) < ((((l0.getD 1 0).toNat : Nat) : Int) - 128))) with g10 | g10
      ·replace h := bif_t h g10
       refine Vg hT fN [(2, false), (6, true)] [] [0] ⟨[(0, kH 0), (7, kI ((((l0.getD 1 0).toNat : Nat) : Int) - 128)), (40, kB true)], [], [ob 5 l0]⟩ (aP g9 (aP g10 aN)) ?_
       refine Vi (true) (fun _ => ?_) (fun hb => by cases hb)
       refine Vrs hT [] ⟨[(2, kI 0), (3, kI 0), (4, kB false)], [], []⟩ ?_
       refine Vc [] [] (thead_R (0, 0, false)) (W_ret ?_)
       exact ⟨.inl rfl, by cases h; rfl⟩
      ·replace h := bif_f h g10
       obtain ⟨g11, h⟩ := gd_some h
       refine Vg hT fN [(2, false), (6, false)] [] [0] ⟨[(0, kH 0), (7, kI ((((l0.getD 1 0).toNat : Nat) : Int) - 128)), (40, kB (decide (((l0.length : Nat) : Int) < (2 + ((((l0.getD 1 0).toNat : Nat) : Int) - 128)))))], [], [ob 5 l0]⟩ (aP g9 (aP g10 (aP g11 aN))) ?_
       refine Vi ((decide (((l0.length : Nat) : Int) < (2 + ((((l0.getD 1 0).toNat : Nat) : Int) - 128))))) (fun g26 => ?_) (fun g26 => ?_)
       ·replace h := bif_t h g26
        refine Vrs hT [] ⟨[(2, kI 0), (3, kI 0), (4, kB false)], [], []⟩ ?_
        refine Vc [] [] (thead_R (0, 0, false)) (W_ret ?_)
        exact ⟨.inl rfl, by cases h; rfl⟩
       ·replace h := bif_f h g26
        refine W_skip ?_
        obtain ⟨g12, h⟩ := gd_some h
        refine Vgs hT fN [] [] [0] ⟨[(0, kH 0), (5, kI (2 + ((((l0.getD 1 0).toNat : Nat) : Int) - 128))), (6, kI 0), (7, kI ((((l0.getD 1 0).toNat : Nat) : Int) - 128))], [], [ob 5 l0]⟩ (aP g12 aN) ?_
        refine W_seq ?_
        obtain ⟨g13, g14, g15, h⟩ := gd3 h
        refine Vgs hT fN [] [] [0] ⟨[(0, kH 0), (5, kI (2 + ((((l0.getD 1 0).toNat : Nat) : Int) - 128))), (6, kI 0), (7, kI ((((l0.getD 1 0).toNat : Nat) : Int) - 128)), (45, .c (.sl 0 2 (((2 + ((((l0.getD 1 0).toNat : Nat) : Int) - 128)).toNat) - 2))), (46, kI (((((2 + ((((l0.getD 1 0).toNat : Nat) : Int) - 128)).toNat) - 2) : Nat) : Int)), (47, kI 0)], [], [ob 5 l0]⟩ (aP g13 (aP g14 (aP g15 aN))) ?_
        refine W_block ?_
        refine Vc [.vw 45 false] [0, 1] (thead_l1_E l0 0 0) (W_lp ((thead_l1_P n l0 r)) n ⟨_, _, rfl, h⟩ ?_)
        rintro fu_l1 _ ⟨i6_5, i47_3, rfl, h⟩
        cases fu_l1 with
        | zero => cases h
        | succ fu_l1 =>
         refine ⟨fu_l1, rfl, ?_⟩
         rw [thead_l1] at h
         refine Vrs hT [0, 1] ⟨[(0, kH 0), (5, kI (2 + ((((l0.getD 1 0).toNat : Nat) : Int) - 128))), (6, kI i6_5), (7, kI ((((l0.getD 1 0).toNat : Nat) : Int) - 128)), (45, kH 1), (46, kI (((((2 + ((((l0.getD 1 0).toNat : Nat) : Int) - 128)).toNat) - 2) : Nat) : Int)), (47, kI i47_3), (48, kB (decide (i47_3 < (((((2 + ((((l0.getD 1 0).toNat : Nat) : Int) - 128)).toNat) - 2) : Nat) : Int))))], [], [ob 5 l0, ⟨(.ro false), 5, 1, (((2 + ((((l0.getD 1 0).toNat : Nat) : Int) - 128)).toNat) - 2), .b ((l0.drop 2).take (((2 + ((((l0.getD 1 0).toNat : Nat) : Int) - 128)).toNat) - 2))⟩]⟩ ?_
         refine W_seq ?_
         refine Vi ((decide (i47_3 < (((((2 + ((((l0.getD 1 0).toNat : Nat) : Int) - 128)).toNat) - 2) : Nat) : Int)))) (fun g25 => ?_) (fun g25 => ?_)
         ·replace h := bif_t h g25
          refine W_skip ?_
          refine W_seq ?_
          refine W_block ?_
          obtain ⟨g16, g17, h⟩ := gd2 h
          refine Vgs hT fN [] [] [0, 1] ⟨[(0, kH 0), (5, kI (2 + ((((l0.getD 1 0).toNat : Nat) : Int) - 128))), (6, kI i6_5), (7, kI ((((l0.getD 1 0).toNat : Nat) : Int) - 128)), (9, kU (((l0.drop 2).take (((2 + ((((l0.getD 1 0).toNat : Nat) : Int) - 128)).toNat) - 2)).getD i47_3.toNat 0)), (45, kH 1), (46, kI (((((2 + ((((l0.getD 1 0).toNat : Nat) : Int) - 128)).toNat) - 2) : Nat) : Int)), (47, kI i47_3)], [], [ob 5 l0, ⟨(.ro false), 5, 1, (((2 + ((((l0.getD 1 0).toNat : Nat) : Int) - 128)).toNat) - 2), .b ((l0.drop 2).take (((2 + ((((l0.getD 1 0).toNat : Nat) : Int) - 128)).toNat) - 2))⟩]⟩ (aP g16 (aP g17 aN)) ?_
          obtain ⟨g18, g19, g20, h⟩ := gd3 h
          refine Vg hT fN [] [] [0, 1] ⟨[(0, kH 0), (5, kI (2 + ((((l0.getD 1 0).toNat : Nat) : Int) - 128))), (6, kI (bitI .or .i64 (i6_5 * 2 ^ 8) (((((l0.drop 2).take (((2 + ((((l0.getD 1 0).toNat : Nat) : Int) - 128)).toNat) - 2)).getD i47_3.toNat 0).toNat : Nat) : Int))), (7, kI ((((l0.getD 1 0).toNat : Nat) : Int) - 128)), (45, kH 1), (46, kI (((((2 + ((((l0.getD 1 0).toNat : Nat) : Int) - 128)).toNat) - 2) : Nat) : Int)), (47, kI i47_3)], [], [ob 5 l0, ⟨(.ro false), 5, 1, (((2 + ((((l0.getD 1 0).toNat : Nat) : Int) - 128)).toNat) - 2), .b ((l0.drop 2).take (((2 + ((((l0.getD 1 0).toNat : Nat) : Int) - 128)).toNat) - 2))⟩]⟩ (aP g18 (aP g19 (aP g20 aN))) ?_
          obtain ⟨g21, h⟩ := gd_some h
          refine Vg hT fN [] [] [0, 1] (thead_l1_E l0 (bitI .or .i64 (i6_5 * 2 ^ 8) (((((l0.drop 2).take (((2 + ((((l0.getD 1 0).toNat : Nat) : Int) - 128)).toNat) - 2)).getD i47_3.toNat 0).toNat : Nat) : Int)) (i47_3 + 1)) (aP g21 aN) ?_
          exact ⟨_, _, rfl, h⟩
         ·replace h := bif_f h g25
          refine Vc [] [0] ⟨[(0, kH 0), (5, kI (2 + ((((l0.getD 1 0).toNat : Nat) : Int) - 128))), (6, kI i6_5), (7, kI ((((l0.getD 1 0).toNat : Nat) : Int) - 128))], [], [ob 5 l0]⟩ (W_exit ?_)
          refine W_seq ?_
          rcases Bool.eq_false_or_eq_true (decide (i6_5 < (128 : Int))) with g22 | g22
          ·replace h := bif_t h g22
           refine Vg hT fN [(2, true)] [] [0] ⟨[(0, kH 0), (5, kI (2 + ((((l0.getD 1 0).toNat : Nat) : Int) - 128))), (6, kI i6_5), (66, kB true)], [], [ob 5 l0]⟩ (aP g22 aN) ?_
           refine Vi (true) (fun _ => ?_) (fun hb => by cases hb)
           refine Vrs hT [] ⟨[(2, kI 0), (3, kI 0), (4, kB false)], [], []⟩ ?_
           refine Vc [] [] (thead_R (0, 0, false)) (W_ret ?_)
           exact ⟨.inl rfl, by cases h; rfl⟩
          ·replace h := bif_f h g22
           rcases Bool.eq_false_or_eq_true (((((l0.getD 1 0).toNat : Nat) : Int) - 128) == 2) with g23 | g23
           ·replace h := bif_t h g23
            refine Vg hT fN [(2, false), (5, true)] [] [0] ⟨[(0, kH 0), (5, kI (2 + ((((l0.getD 1 0).toNat : Nat) : Int) - 128))), (6, kI i6_5), (66, kB (decide (i6_5 < (256 : Int))))], [], [ob 5 l0]⟩ (aP g22 (aP g23 aN)) ?_
            refine Vi ((decide (i6_5 < (256 : Int)))) (fun g24 => ?_) (fun g24 => ?_)
            ·replace h := bif_t h g24
             refine Vrs hT [] ⟨[(2, kI 0), (3, kI 0), (4, kB false)], [], []⟩ ?_
             refine Vc [] [] (thead_R (0, 0, false)) (W_ret ?_)
             exact ⟨.inl rfl, by cases h; rfl⟩
            ·replace h := bif_f h g24
             refine Vc [] [0] (thead_j1_E l0 (2 + ((((l0.getD 1 0).toNat : Nat) : Int) - 128)) i6_5) (W_skip ?_)
             exact ⟨_, _, rfl, h⟩
           ·replace h := bif_f h g23
            refine Vg hT fN [(2, false), (5, false)] [] [0] ⟨[(0, kH 0), (5, kI (2 + ((((l0.getD 1 0).toNat : Nat) : Int) - 128))), (6, kI i6_5), (66, kB false)], [], [ob 5 l0]⟩ (aP g22 (aP g23 aN)) ?_
            refine Vi (false) (fun hb => by cases hb) (fun _ => ?_)
            refine Vc [] [0] (thead_j1_E l0 (2 + ((((l0.getD 1 0).toNat : Nat) : Int) - 128)) i6_5) (W_skip ?_)
            exact ⟨_, _, rfl, h⟩
    ·replace h := bif_f h g27
     refine Vc [] [0] (thead_j1_E l0 2 (((l0.getD 1 0).toNat : Nat) : Int)) (W_skip ?_)
     exact ⟨_, _, rfl, h⟩
def tHead_R (r : List UInt8 × Option Int) : S := ⟨[(4, kH 0), (5, kE 37 r.2)], [], [nb 5 r.1]⟩
def tHead_ct (n : Nat) (r : List UInt8 × Option Int) : Ct := ctc rU8.rd fun _ l0 => ctc rI.rd fun _ l1 => ct0 fun H => ([tHead n l0 l1 = some r], shA H.length (.t [.c (.wh 0), .c (.s (.er 37 .i64 r.2))]), shH H.length [nb 5 r.1])
theorem tHead_ok (n : Nat) (r : List UInt8 × Option Int) : FnOk Tryz.prog Tr 37 (tHead_ct n r) := by
 refine fnok Tryz.func37 ?_
 refine HO_c rU8 fun l0 _ => HO_c rI fun l1 _ => HO_0 tabO_nra (tHead_R r) [.tmp 4, .tmp 5] [0] 40 Tryz.func37 fun w hG h => ?_
 unfold tHead at h
 have hT := tabO_nra
 refine Vrs hT [] ⟨[(0, kU l0), (1, kI l1)], [], []⟩ ?_
 refine W_seq ?_
 refine W_block ?_
 refine W_seq ?_
 obtain ⟨r8, g1, h⟩ := bind_some' h
 rcases Bool.eq_false_or_eq_true (!r8) with g2 | g2
 ·replace h := bif_t h g2
  refine Vg hT (fT 1 (tvalid_ok n r8) fN) [(3, true)] [] [] ⟨[(0, kU l0), (1, kI l1), (6, kB true)], [], []⟩ (aP g1 (aP g2 aN)) ?_
  refine Vi (true) (fun _ => ?_) (fun hb => by cases hb)
  refine Vrs hT [] ⟨[(4, .c (.nils)), (5, kE 37 (some 1))], [], []⟩ ?_
  refine Vc [.nil 4 5 1 (.b [])] [0] (tHead_R ([], (some 1))) (W_ret ?_)
  exact ⟨.inl rfl, by cases h; rfl⟩
 ·replace h := bif_f h g2
  refine Vg hT (fT 1 (tvalid_ok n r8) fN) [(3, false)] [] [] ⟨[(0, kU l0), (1, kI l1), (6, kB (decide (l1 < (0 : Int))))], [], []⟩ (aP g1 (aP g2 aN)) ?_
  refine Vi ((decide (l1 < (0 : Int)))) (fun g8 => ?_) (fun g8 => ?_)
  ·replace h := bif_t h g8
   refine Vrs hT [] ⟨[(4, .c (.nils)), (5, kE 37 (some 1))], [], []⟩ ?_
   refine Vc [.nil 4 5 1 (.b [])] [0] (tHead_R ([], (some 1))) (W_ret ?_)
   exact ⟨.inl rfl, by cases h; rfl⟩
  ·replace h := bif_f h g8
   refine Vrs hT [] ⟨[(0, kU l0), (1, kI l1), (15, kB (decide ((65535 : Int) < l1)))], [], []⟩ ?_
   refine Vi ((decide ((65535 : Int) < l1))) (fun g7 => ?_) (fun g7 => ?_)
   ·replace h := bif_t h g7
    refine Vrs hT [] ⟨[(4, .c (.nils)), (5, kE 37 (some 4))], [], []⟩ ?_
    refine Vc [.nil 4 5 1 (.b [])] [0] (tHead_R ([], (some 4))) (W_ret ?_)
    exact ⟨.inl rfl, by cases h; rfl⟩
   ·replace h := bif_f h g7
    refine Vrs hT [] ⟨[(0, kU l0), (1, kI l1), (19, kB (decide (l1 < (128 : Int))))], [], []⟩ ?_
    refine Vi ((decide (l1 < (128 : Int)))) (fun g6 => ?_) (fun g6 => ?_)
    ·replace h := bif_t h g6
     refine Vrs hT [0] ⟨[(4, kH 0), (5, .c (.s (.v .nilIface)))], [], [⟨.row, 5, 1, 2, .b [l0, (UInt8.ofInt l1)]⟩]⟩ ?_
     refine Vc [.er 5 37 .i64] [0] (tHead_R ([l0, (UInt8.ofInt l1)], none)) (W_ret ?_)
     exact ⟨.inl rfl, by cases h; rfl⟩
    ·replace h := bif_f h g6
     refine Vrs hT [] ⟨[(0, kU l0), (1, kI l1), (26, kB (decide (l1 < (256 : Int))))], [], []⟩ ?_
     refine Vi ((decide (l1 < (256 : Int)))) (fun g5 => ?_) (fun g5 => ?_)
     ·replace h := bif_t h g5
      refine Vrs hT [0] ⟨[(4, kH 0), (5, .c (.s (.v .nilIface)))], [], [⟨.row, 5, 1, 3, .b [l0, 129, (UInt8.ofInt l1)]⟩]⟩ ?_
      refine Vc [.er 5 37 .i64] [0] (tHead_R ([l0, 129, (UInt8.ofInt l1)], none)) (W_ret ?_)
      exact ⟨.inl rfl, by cases h; rfl⟩
     ·replace h := bif_f h g5
      refine W_skip ?_
      obtain ⟨g3, g4, h⟩ := gd2 h
      refine Vgs hT fN [] [] [0] ⟨[(4, kH 0), (5, .c (.s (.v .nilIface)))], [], [⟨.row, 5, 1, 4, .b [l0, 130, (UInt8.ofInt (l1 / 2 ^ 8)), (UInt8.ofInt l1)]⟩]⟩ (aP g3 (aP g4 aN)) ?_
      refine Vc [.er 5 37 .i64] [0] (tHead_R ([l0, 130, (UInt8.ofInt (l1 / 2 ^ 8)), (UInt8.ofInt l1)], none)) (W_ret ?_)
      exact ⟨.inl rfl, by cases h; rfl⟩
def tNewR_R (r : List UInt8 × List Int) : S := ⟨[(2, kP 0 0)], [], [⟨.blk, 102, 1, 3, .c [.wh 1, .s (.k .i64 0), .wh 2]⟩, nb 5 r.1, nz 3 r.2]⟩
def tNewR_ct (n : Nat) (r : List UInt8 × List Int) : Ct := ctc (rB 5).rd fun _ l0 => ct0 fun H => ([tNewR n l0 = some r], shA H.length (kP 0 0), shH H.length [⟨.blk, 102, 1, 3, .c [.wh 1, .s (.k .i64 0), .wh 2]⟩, nb 5 r.1, nz 3 r.2])
theorem tNewR_ok (n : Nat) (r : List UInt8 × List Int) : FnOk Tryz.prog Tr 30 (tNewR_ct n r) := by
 refine fnok Tryz.func30 ?_
 refine HO_c (rB 5) fun l0 _ => HO_0 tabO_nra (tNewR_R r) [.tmp 2] [0, 1, 2] 10 Tryz.func30 fun w hG h => ?_
 unfold tNewR at h
 have hT := tabO_nra
 refine Vrs hT [0] ⟨[(0, kH 0)], [], [ob 5 l0]⟩ ?_
 obtain ⟨g1, h⟩ := gd_some h
 refine Vgs hT (fT 1 cloneb_h fN) [] [] [3, 1, 2] ⟨[(2, kP 0 0)], [], [⟨.blk, 102, 1, 3, .c [.wh 1, .s (.k .i64 0), .wh 2]⟩, nb 5 l0, ⟨.row, 3, 1, 1, .z [((l0.length : Nat) : Int)]⟩]⟩ (aP g1 aN) ?_
 refine Vc [] [0, 1, 2] (tNewR_R (l0, [((l0.length : Nat) : Int)])) (W_ret ?_)
 exact ⟨.inl rfl, by cases h; rfl⟩
def tleft_R (a0_0 : List UInt8) (a0_1 : Int) (a0_2 : List Int) (r : Nat × Nat) : S := ⟨[(2, .c (.sl 1 r.1 r.2))], [(1000000, kP 0 0)], [⟨.blk, 102, 1, 3, .c [.wh 1, .s (.k .i64 a0_1), .wh 2]⟩, nb 5 a0_0, nz 3 a0_2]⟩
def tleft_ct (n : Nat) (r : Nat × Nat) : CtM := ctM (cmm (mP 102 (mC (mB 5) (mC mI (mC (mZ 3) mN)))) fun y0 => cmR (tleft n y0.1 y0.2.1 y0.2.2.1 = some r) (.c (.sl 0 r.1 r.2)) [⟨.blk, 102, 1, 3, .c [.wh 0, .s (.k .i64 y0.2.1), .wh 1]⟩] [nb 5 y0.1, nz 3 y0.2.2.1])
theorem tleft_ok (n : Nat) (r : Nat × Nat) : FnMOk Tryz.prog 84 (tleft_ct n r) := by
 refine fnokM Tryz.func84 ?_
 refine HM_m (mP 102 (mC (mB 5) (mC mI (mC (mZ 3) mN)))) (fun (p0 : ((List UInt8) × (Int) × (List Int) × Unit)) => ?_) (allOwn_ok rfl)
 obtain ⟨l0_0, l0_1, l0_2, _⟩ := p0
 refine HM_0 tabO_nra (tleft_R l0_0 l0_1 l0_2 r) [.tmp 2] [0, 1, 2] 24 1 Tryz.func84 fun w bs h => ?_
 have h : tleft n l0_0 l0_1 l0_2 = some r := h
 unfold tleft at h
 have hT := tabO_nra
 refine Vrs hT [0, 1, 2] ⟨[(0, kP 0 0)], [(1000000, kP 0 0)], [⟨.blk, 102, 1, 3, .c [.wh 1, .s (.k .i64 l0_1), .wh 2]⟩, nb 5 l0_0, nz 3 l0_2]⟩ ?_
 obtain ⟨g1, g2, g3, g4, g5, h⟩ := gd5 h
 obtain ⟨g6, h⟩ := gd_some h
 refine Vds hT fN 20 [] [(6, false), (10, false), (22, false)] [] [0, 1, 2] ⟨[(2, .c (.sl 1 l0_1.toNat (((l0_2.getD ((((l0_2.length : Nat) : Int) - 1).toNat) 0).toNat) - l0_1.toNat)))], [(1000000, kP 0 0)], [⟨.blk, 102, 1, 3, .c [.wh 1, .s (.k .i64 l0_1), .wh 2]⟩, nb 5 l0_0, nz 3 l0_2]⟩ (aP g1 (aP g2 (aP g3 (aP g4 (aP g5 (aP g6 aN)))))) ?_
 refine Vc [] [0, 1, 2] (tleft_R l0_0 l0_1 l0_2 (l0_1.toNat, (((l0_2.getD ((((l0_2.length : Nat) : Int) - 1).toNat) 0).toNat) - l0_1.toNat))) (W_ret ?_)
 exact ⟨.inl rfl, by cases h; rfl⟩
def tNext_R (a0_0 : List UInt8) (a0_1 : Int) (a0_2 : List Int) (r : UInt8 × Bool) : S := ⟨[(2, kU r.1), (3, kB r.2)], [(1000000, kP 0 0)], [⟨.blk, 102, 1, 3, .c [.wh 1, .s (.k .i64 a0_1), .wh 2]⟩, nb 5 a0_0, nz 3 a0_2]⟩
def tNext_ct (n : Nat) (r : UInt8 × Bool) : CtM := ctM (cmm (mP 102 (mC (mB 5) (mC mI (mC (mZ 3) mN)))) fun y0 => cmR (tNext n y0.1 y0.2.1 y0.2.2.1 = some r) (.t [.c (.s (.u8 r.1)), .c (.s (.b r.2))]) [⟨.blk, 102, 1, 3, .c [.wh 0, .s (.k .i64 y0.2.1), .wh 1]⟩] [nb 5 y0.1, nz 3 y0.2.2.1])
theorem tNext_ok (n : Nat) (r : UInt8 × Bool) : FnMOk Tryz.prog 61 (tNext_ct n r) := by
 refine fnokM Tryz.func61 ?_
 refine HM_m (mP 102 (mC (mB 5) (mC mI (mC (mZ 3) mN)))) (fun (p0 : ((List UInt8) × (Int) × (List Int) × Unit)) => ?_) (allOwn_ok rfl)
 obtain ⟨l0_0, l0_1, l0_2, _⟩ := p0
 refine HM_0 tabO_nra (tNext_R l0_0 l0_1 l0_2 r) [.tmp 2, .tmp 3] [0, 1, 2] 13 1 Tryz.func61 fun w bs h => ?_
 have h : tNext n l0_0 l0_1 l0_2 = some r := h
 unfold tNext at h
 have hT := tabO_nra
 refine Vrs hT [0, 1, 2] ⟨[(0, kP 0 0)], [(1000000, kP 0 0)], [⟨.blk, 102, 1, 3, .c [.wh 1, .s (.k .i64 l0_1), .wh 2]⟩, nb 5 l0_0, nz 3 l0_2]⟩ ?_
 obtain ⟨r6, g1, h⟩ := bind_some' h
 refine Vgs hT (fM 1 (tleft_ok n r6) fN) [] [] [0, 3, 4] ⟨[(4, .c (.sl 1 r6.1 r6.2))], [(1000000, kP 0 0)], [⟨.blk, 102, 1, 3, .c [.wh 1, .s (.k .i64 l0_1), .wh 2]⟩, nb 5 l0_0, nz 3 l0_2]⟩ (aP g1 aN) ?_
 refine W_seq ?_
 refine Vrs hT [0, 1, 2] ⟨[(4, .c (.sl 1 r6.1 r6.2)), (9, kB (((r6.2 : Nat) : Int) == 0))], [(1000000, kP 0 0)], [⟨.blk, 102, 1, 3, .c [.wh 1, .s (.k .i64 l0_1), .wh 2]⟩, nb 5 l0_0, nz 3 l0_2]⟩ ?_
 refine Vi ((((r6.2 : Nat) : Int) == 0)) (fun g4 => ?_) (fun g4 => ?_)
 ·replace h := bif_t h g4
  refine Vrs hT [0, 1, 2] ⟨[(2, kU 0), (3, kB false)], [(1000000, kP 0 0)], [⟨.blk, 102, 1, 3, .c [.wh 1, .s (.k .i64 l0_1), .wh 2]⟩, nb 5 l0_0, nz 3 l0_2]⟩ ?_
  refine Vc [] [0, 1, 2] (tNext_R l0_0 l0_1 l0_2 (0, false)) (W_ret ?_)
  exact ⟨.inl rfl, by cases h; rfl⟩
 ·replace h := bif_f h g4
  refine W_skip ?_
  obtain ⟨g2, g3, h⟩ := gd2 h
  refine Vgs hT fN [] [] [0, 1, 2] ⟨[(2, kU (l0_0.getD (oddA r6.1 0) 0)), (3, kB true)], [(1000000, kP 0 0)], [⟨.blk, 102, 1, 3, .c [.wh 1, .s (.k .i64 l0_1), .wh 2]⟩, nb 5 l0_0, nz 3 l0_2]⟩ (aP g2 (aP g3 aN)) ?_
  refine Vc [] [0, 1, 2] (tNext_R l0_0 l0_1 l0_2 ((l0_0.getD (oddA r6.1 0) 0), true)) (W_ret ?_)
  exact ⟨.inl rfl, by cases h; rfl⟩
def tEnter_R (a0_0 : List UInt8) (r : Int × List Int × Option Int) : S := ⟨[(4, kE 37 r.2.2)], [(1000000, kP 0 0)], [⟨.blk, 102, 1, 3, .c [.wh 1, .s (.k .i64 r.1), .wh 2]⟩, nb 5 a0_0, nz 3 r.2.1]⟩
def tEnter_ct (n : Nat) (r : Int × List Int × Option Int) : CtM := ctM (cmm (mP 102 (mC (mB 5) (mC mI (mC (mZ 3) mN)))) fun y0 => cmc rU8.rd fun l1 => cmR (tEnter n y0.1 y0.2.1 y0.2.2.1 l1 = some r) (kE 37 r.2.2) [⟨.blk, 102, 1, 3, .c [.wh 0, .s (.k .i64 r.1), .wh 1]⟩] [nb 5 y0.1, nz 3 r.2.1])
theorem tEnter_ok (n : Nat) (r : Int × List Int × Option Int) : FnMOk Tryz.prog 60 (tEnter_ct n r) := by
 refine fnokM Tryz.func60 ?_
 refine HM_m (mP 102 (mC (mB 5) (mC mI (mC (mZ 3) mN)))) (fun (p0 : ((List UInt8) × (Int) × (List Int) × Unit)) => ?_) (allOwn_ok rfl)
 obtain ⟨l0_0, l0_1, l0_2, _⟩ := p0
 refine HM_c rU8 fun l1 _ => HM_0 tabO_nra (tEnter_R l0_0 r) [.tmp 4] [0, 1, 2] 69 1 Tryz.func60 fun w bs h => ?_
 have h : tEnter n l0_0 l0_1 l0_2 l1 = some r := h
 unfold tEnter at h
 have hT := tabO_nra
 refine Vrs hT [0, 1, 2] ⟨[(0, kP 0 0), (1, kU l1)], [(1000000, kP 0 0)], [⟨.blk, 102, 1, 3, .c [.wh 1, .s (.k .i64 l0_1), .wh 2]⟩, nb 5 l0_0, nz 3 l0_2]⟩ ?_
 obtain ⟨r10, g1, h⟩ := bind_some' h
 refine Vgs hT (fM 1 (tleft_ok n r10) fN) [] [] [0, 3, 4] ⟨[(0, kP 0 0), (1, kU l1), (5, .c (.sl 1 r10.1 r10.2))], [(1000000, kP 0 0)], [⟨.blk, 102, 1, 3, .c [.wh 1, .s (.k .i64 l0_1), .wh 2]⟩, nb 5 l0_0, nz 3 l0_2]⟩ (aP g1 aN) ?_
 refine W_seq ?_
 refine W_block ?_
 refine Vrs hT [0, 1, 2] ⟨[(0, kP 0 0), (1, kU l1), (5, .c (.sl 1 r10.1 r10.2)), (11, kB (((r10.2 : Nat) : Int) == 0))], [(1000000, kP 0 0)], [⟨.blk, 102, 1, 3, .c [.wh 1, .s (.k .i64 l0_1), .wh 2]⟩, nb 5 l0_0, nz 3 l0_2]⟩ ?_
 refine Vi ((((r10.2 : Nat) : Int) == 0)) (fun g13 => ?_) (fun g13 => ?_)
 ·replace h := bif_t h g13
  refine Vrs hT [0, 1, 2] ⟨[(4, kE 37 (some 13))], [(1000000, kP 0 0)], [⟨.blk, 102, 1, 3, .c [.wh 1, .s (.k .i64 l0_1), .wh 2]⟩, nb 5 l0_0, nz 3 l0_2]⟩ ?_
  refine Vc [] [0, 1, 2] (tEnter_R l0_0 (l0_1, l0_2, (some 13))) (W_ret ?_)
  exact ⟨.inl rfl, by cases h; rfl⟩
 ·replace h := bif_f h g13
  obtain ⟨g2, g3, h⟩ := gd2 h
  refine Vgs hT fN [] [] [0, 1, 2] ⟨[(0, kP 0 0), (1, kU l1), (5, .c (.sl 1 r10.1 r10.2)), (16, kB ((l0_0.getD (oddA r10.1 0) 0) != l1))], [(1000000, kP 0 0)], [⟨.blk, 102, 1, 3, .c [.wh 1, .s (.k .i64 l0_1), .wh 2]⟩, nb 5 l0_0, nz 3 l0_2]⟩ (aP g2 (aP g3 aN)) ?_
  refine Vi (((l0_0.getD (oddA r10.1 0) 0) != l1)) (fun g12 => ?_) (fun g12 => ?_)
  ·replace h := bif_t h g12
   refine Vrs hT [0, 1, 2] ⟨[(4, kE 37 (some 6))], [(1000000, kP 0 0)], [⟨.blk, 102, 1, 3, .c [.wh 1, .s (.k .i64 l0_1), .wh 2]⟩, nb 5 l0_0, nz 3 l0_2]⟩ ?_
   refine Vc [] [0, 1, 2] (tEnter_R l0_0 (l0_1, l0_2, (some 6))) (W_ret ?_)
   exact ⟨.inl rfl, by cases h; rfl⟩
  ·replace h := bif_f h g12
   refine W_skip ?_
   obtain ⟨r25, g4, h⟩ := bind_some' h
   refine Vgs hT (fT 1 (thead_ok n r25) fN) [] [] [0, 1, 2] ⟨[(0, kP 0 0), (1, kU l1), (6, kI r25.1), (7, kI r25.2.1), (8, kB r25.2.2)], [(1000000, kP 0 0)], [⟨.blk, 102, 1, 3, .c [.wh 1, .s (.k .i64 l0_1), .wh 2]⟩, nb 5 l0_0, nz 3 l0_2]⟩ (aP g4 aN) ?_
   refine W_seq ?_
   refine W_block ?_
   refine W_seq ?_
   rcases Bool.eq_false_or_eq_true (!r25.2.2) with g5 | g5
   ·replace h := bif_t h g5
    refine Vg hT fN [(2, true)] [] [0, 1, 2] ⟨[(0, kP 0 0), (6, kI r25.1), (7, kI r25.2.1), (29, kB true)], [(1000000, kP 0 0)], [⟨.blk, 102, 1, 3, .c [.wh 1, .s (.k .i64 l0_1), .wh 2]⟩, nb 5 l0_0, nz 3 l0_2]⟩ (aP g5 aN) ?_
    refine Vi (true) (fun _ => ?_) (fun hb => by cases hb)
    refine Vrs hT [0, 1, 2] ⟨[(4, kE 37 (some 2))], [(1000000, kP 0 0)], [⟨.blk, 102, 1, 3, .c [.wh 1, .s (.k .i64 l0_1), .wh 2]⟩, nb 5 l0_0, nz 3 l0_2]⟩ ?_
    refine Vc [] [0, 1, 2] (tEnter_R l0_0 (l0_1, l0_2, (some 2))) (W_ret ?_)
    exact ⟨.inl rfl, by cases h; rfl⟩
   ·replace h := bif_f h g5
    obtain ⟨r34, g6, h⟩ := bind_some' h
    refine Vg hT (fT 4 (tisW_ok n r34) fN) [(2, false)] [] [0, 1, 2] ⟨[(0, kP 0 0), (6, kI r25.1), (7, kI r25.2.1), (29, kB (!r34))], [(1000000, kP 0 0)], [⟨.blk, 102, 1, 3, .c [.wh 1, .s (.k .i64 l0_1), .wh 2]⟩, nb 5 l0_0, nz 3 l0_2]⟩ (aP g5 (aP g6 aN)) ?_
    refine Vi ((!r34)) (fun g11 => ?_) (fun g11 => ?_)
    ·replace h := bif_t h g11
     refine Vrs hT [0, 1, 2] ⟨[(4, kE 37 (some 2))], [(1000000, kP 0 0)], [⟨.blk, 102, 1, 3, .c [.wh 1, .s (.k .i64 l0_1), .wh 2]⟩, nb 5 l0_0, nz 3 l0_2]⟩ ?_
     refine Vc [] [0, 1, 2] (tEnter_R l0_0 (l0_1, l0_2, (some 2))) (W_ret ?_)
     exact ⟨.inl rfl, by cases h; rfl⟩
    ·replace h := bif_f h g11
     refine Vrs hT [0, 1, 2] ⟨[(0, kP 0 0), (6, kI r25.1), (7, kI r25.2.1), (38, kB (decide ((24 : Int) < ((l0_2.length : Nat) : Int))))], [(1000000, kP 0 0)], [⟨.blk, 102, 1, 3, .c [.wh 1, .s (.k .i64 l0_1), .wh 2]⟩, nb 5 l0_0, nz 3 l0_2]⟩ ?_
     refine Vi ((decide ((24 : Int) < ((l0_2.length : Nat) : Int)))) (fun g10 => ?_) (fun g10 => ?_)
     ·replace h := bif_t h g10
      refine Vrs hT [0, 1, 2] ⟨[(4, kE 37 (some 5))], [(1000000, kP 0 0)], [⟨.blk, 102, 1, 3, .c [.wh 1, .s (.k .i64 l0_1), .wh 2]⟩, nb 5 l0_0, nz 3 l0_2]⟩ ?_
      refine Vc [] [0, 1, 2] (tEnter_R l0_0 (l0_1, l0_2, (some 5))) (W_ret ?_)
      exact ⟨.inl rfl, by cases h; rfl⟩
     ·replace h := bif_f h g10
      refine W_skip ?_
      obtain ⟨g7, h⟩ := gd_some h
      refine Vgs hT fN [] [] [0, 1, 2] ⟨[(0, kP 0 0), (7, kI r25.2.1)], [(1000000, kP 0 0)], [⟨.blk, 102, 1, 3, .c [.wh 1, .s (.k .i64 (l0_1 + r25.1)), .wh 2]⟩, nb 5 l0_0, nz 3 l0_2]⟩ (aP g7 aN) ?_
      refine W_seq ?_
      obtain ⟨g8, g9, h⟩ := gd2 h
      refine W_regG hT fN (by kernel_rfl) [] [0, 1, 2, 3, 4, 5, 6, 7, 8, 9, 10, 13, 14] [[0, 1, 2, 3, 4, 5, 6, 7, 8, 9, 10], [0, 1, 2, 3, 4, 5, 6, 7, 8, 9, 10, 11], [0, 1, 2, 3, 4, 5, 6, 7, 8, 9, 10, 11, 12, 13, 14], [0, 1, 2, 3, 4, 5, 6, 7, 8, 9, 10, 11, 12, 13, 14, 15]] [⟨[(0, kP 0 0), (7, kI r25.2.1), (54, kP 0 0), (55, kP 0 0), (56, kP 0 0), (57, kP 0 2), (58, kH 2), (59, kP 0 0), (60, kP 0 0), (61, kP 0 1), (62, kI (l0_1 + r25.1)), (63, kI r25.2.1), (64, kI ((l0_1 + r25.1) + r25.2.1))], [(1000000, kP 0 0)], [⟨.blk, 102, 1, 3, .c [.wh 1, .s (.k .i64 (l0_1 + r25.1)), .wh 2]⟩, nb 5 l0_0, nz 3 l0_2]⟩, ⟨[(0, kP 0 0), (54, kP 0 0), (55, kP 0 0), (56, kP 0 0), (57, kP 0 2), (58, kH 2), (65, kH 3)], [(1000000, kP 0 0)], [⟨.blk, 102, 1, 3, .c [.wh 1, .s (.k .i64 (l0_1 + r25.1)), .wh 2]⟩, nb 5 l0_0, nz 3 l0_2, ⟨.row, 3, 1, 1, .z [((l0_1 + r25.1) + r25.2.1)]⟩]⟩, ⟨[(0, kP 0 0), (54, kP 0 0), (66, kH 3), (67, kP 0 0), (68, kP 0 2)], [(1000000, kP 0 0)], [⟨.blk, 102, 1, 3, .c [.wh 1, .s (.k .i64 (l0_1 + r25.1)), .wh 2]⟩, nb 5 l0_0, ⟨.dead, 3, 1, l0_2.length, .z l0_2⟩, nz 3 (l0_2 ++ [((l0_1 + r25.1) + r25.2.1)])]⟩, ⟨[], [(1000000, kP 0 0)], [⟨.blk, 102, 1, 3, .c [.wh 1, .s (.k .i64 (l0_1 + r25.1)), .wh 2]⟩, nb 5 l0_0, nz 3 (l0_2 ++ [((l0_1 + r25.1) + r25.2.1)])]⟩] [0, 1, 2, 3, 4, 5, 6, 7, 8, 9, 10] [⟨0, 11, 1, [], [], [0, 54, 55, 56, 57, 58, 65], [0, 1, 2, 3]⟩, ⟨1, 12, 2, [13, 14], [], [0, 54, 66, 67, 68], [0, 1, 2, 4]⟩, ⟨2, 15, 3, [], [], [], [0, 1, 3]⟩] [(0, 0), (0, 1), (0, 2), (0, 3), (0, 4), (0, 5), (0, 6), (0, 7), (0, 8), (0, 9), (0, 10), (1, 0), (1, 1), (1, 2), (1, 3), (1, 4), (2, 0), (2, 13), (2, 14)] 3 [0, 7, 54, 55, 56, 57, 58, 59, 60, 61, 62, 63, 64] [0, 1, 2] [] [] [0, 1, 2] (s' := ⟨[], [(1000000, kP 0 0)], [⟨.blk, 102, 1, 3, .c [.wh 1, .s (.k .i64 (l0_1 + r25.1)), .wh 2]⟩, nb 5 l0_0, nz 3 (l0_2 ++ [((l0_1 + r25.1) + r25.2.1)])]⟩) (by kernel_rfl) ⟨_, (by kernel_rfl), (allP_cons.2 ⟨g8, allP_nil⟩)⟩ (AllE.cons ⟨_, (by kernel_rfl), allP_nil⟩ (AllE.cons ⟨_, (by kernel_rfl), (allP_cons.2 ⟨g9, allP_nil⟩)⟩ (AllE.cons ⟨_, (by kernel_rfl), allP_nil⟩ AllE.nil))) (AllR.cons ⟨_, (by kernel_rfl), allP_nil⟩ (AllR.cons ⟨_, (by kernel_rfl), allP_nil⟩ (AllR.cons ⟨_, (by kernel_rfl), allP_nil⟩ (AllR.cons ⟨_, (by kernel_rfl), allP_nil⟩ (AllR.cons ⟨_, (by kernel_rfl), allP_nil⟩ (AllR.cons ⟨_, (by kernel_rfl), allP_nil⟩ (AllR.cons ⟨_, (by kernel_rfl), allP_nil⟩ (AllR.cons ⟨_, (by kernel_rfl), allP_nil⟩ (AllR.cons ⟨_, (by kernel_rfl), allP_nil⟩ (AllR.cons ⟨_, (by kernel_rfl), allP_nil⟩ (AllR.cons ⟨_, (by kernel_rfl), (allP_cons.2 ⟨g8, allP_nil⟩)⟩ (AllR.cons ⟨_, (by kernel_rfl), allP_nil⟩ (AllR.cons ⟨_, (by kernel_rfl), allP_nil⟩ (AllR.cons ⟨_, (by kernel_rfl), allP_nil⟩ (AllR.cons ⟨_, (by kernel_rfl), allP_nil⟩ (AllR.cons ⟨_, (by kernel_rfl), allP_nil⟩ (AllR.cons ⟨_, (by kernel_rfl), allP_nil⟩ (AllR.cons ⟨_, (by kernel_rfl), allP_nil⟩ (AllR.cons ⟨_, (by kernel_rfl), allP_nil⟩ AllR.nil))))))))))))))))))) (by kernel_rfl) ?_
      refine Vrs hT [0, 1, 2] ⟨[(4, .c (.s (.v .nilIface)))], [(1000000, kP 0 0)], [⟨.blk, 102, 1, 3, .c [.wh 1, .s (.k .i64 (l0_1 + r25.1)), .wh 2]⟩, nb 5 l0_0, nz 3 (l0_2 ++ [((l0_1 + r25.1) + r25.2.1)])]⟩ ?_
      refine Vc [.er 4 37 .i64] [0, 1, 2] (tEnter_R l0_0 ((l0_1 + r25.1), (l0_2 ++ [((l0_1 + r25.1) + r25.2.1)]), none)) (W_ret ?_)
      exact ⟨.inl rfl, by cases h; rfl⟩
end Go.Proofs.YtiojofjllkhbhaaGreat
end
section
namespace Go.Proofs.YtiojofjllkhbhaaGreat
open Go.RowKit Go.Ch Go.Sx
def tabL_nwa : List (TypeId × Ti) := [(5, ⟨.int .u8, 1, 1, true, some [.int .u8]⟩),
 (32, ⟨.sl 5, 1, 24, false, some [.nils]⟩),
 (34, ⟨.ifc, 1, 16, true, some [.ifc]⟩),
 (114, ⟨.ptr 142, 1, 8, true, some [.ptr]⟩),
 (140, ⟨.sl 145, 1, 24, false, some [.nils]⟩),
 (142, ⟨.st [(140, 0), (34, 1)], 2, 40, false, some [.nils, .ifc]⟩),
 (145, ⟨.st [(5, 0), (32, 1)], 2, 32, false, some [.int .u8, .nils]⟩)]
def tab_nwa : Tab := fun t => (tabL_nwa).lookup t
theorem tabE_nwa : (tabL_nwa.map fun p => tiOf Tryz.prog p.1) = tabL_nwa.map fun p => some p.2 := by kernel_rfl
theorem tabO_nwa : TabOk Tryz.prog tab_nwa := tab_of tabE_nwa
def wNew (n : Nat) : Option (Unit) :=
 some ()
def wOpen1 (n : Nat) (a0_0 : UInt8) (a0_1 : List UInt8) (a1 : UInt8) : Option (Unit) :=
 (tvalid n a1).bind fun r23 =>
 bif (!r23) then
  none
 else
  (tisW n a1).bind fun r27 =>
  bif (!r27) then
   none
  else
   gd (rmB 2 32) <|
   some ()
def wadd1 (n : Nat) (a0_0 : UInt8) (a0_1 : List UInt8) (a1 : UInt8) (a2 : List UInt8) : Option (List UInt8) :=
 (tHead n a1 ((a2.length : Nat) : Int)).bind fun r13 =>
 bif (!((r13.2).isNone)) then
  none
 else
  gd (okI .i64 0) <|
  gd (0 ≤ (0 : Int)) <|
  gd ((0 : Int) < (1 : Int)) <|
  gd (1 < 1 * 2) <|
  gd (rmB (a0_1.length + r13.1.length) 1) <|
  gd (rmB (((a0_1 ++ r13.1).length) + a2.length) 1) <|
  gd (1 < 1 * 2) <|
  some ((a0_1 ++ r13.1) ++ a2)
def wadd2 (n : Nat) (a0_0 : UInt8) (a0_1 : List UInt8) (a0_2 : UInt8) (a0_3 : List UInt8) (a1 : UInt8) (a2 : List UInt8) : Option (List UInt8) :=
 (tHead n a1 ((a2.length : Nat) : Int)).bind fun r13 =>
 bif (!((r13.2).isNone)) then
  none
 else
  gd (okI .i64 1) <|
  gd (0 ≤ (1 : Int)) <|
  gd ((1 : Int) < (2 : Int)) <|
  gd (3 < 2 * 2) <|
  gd (rmB (a0_3.length + r13.1.length) 1) <|
  gd (rmB (((a0_3 ++ r13.1).length) + a2.length) 1) <|
  gd (3 < 2 * 2) <|
  some ((a0_3 ++ r13.1) ++ a2)
def wPut2 (n : Nat) (a0_0 : UInt8) (a0_1 : List UInt8) (a0_2 : UInt8) (a0_3 : List UInt8) (a1 : UInt8) (a2 : List UInt8) : Option (List UInt8) :=
 (tvalid n a1).bind fun r18 =>
 bif (!r18) then
  none
 else
  (tisW n a1).bind fun r22 =>
  bif r22 then
   none
  else
   (wadd2 n a0_0 a0_1 a0_2 a0_3 a1 a2).bind fun r9 =>
   some r9
def wClose2 (n : Nat) (a0_0 : UInt8) (a0_1 : List UInt8) (a0_2 : UInt8) (a0_3 : List UInt8) : Option (List UInt8) :=
 gd (okI .i64 1) <|
 gd (0 ≤ (1 : Int)) <|
 gd ((1 : Int) < (2 : Int)) <|
 gd (2 + 2 ≤ 4) <|
 gd (okI .i64 1) <|
 gd (0 ≤ (1 : Int)) <|
 gd ((1 : Int) ≤ (2 : Int)) <|
 (wadd1 n a0_0 a0_1 a0_2 a0_3).bind fun r34 =>
 some r34
def wBytes1 (n : Nat) (a0_0 : UInt8) (a0_1 : List UInt8) : Option (Unit) :=
 gd (0 ≤ (0 : Int)) <|
 gd ((0 : Int) < (1 : Int)) <|
 gd (1 < 1 * 2) <|
 gd ((a0_1).length ≤ 1000000000000) <|
 some ()
def wNew_R (r : Unit) : S := ⟨[(0, kP 0 0)], [], [⟨.blk, 142, 1, 2, .c [.wh 1, .s (.v .nilIface)]⟩, ⟨.row, 145, 2, 1, .c [.s (.u8 0), .wh 2]⟩, ⟨.row, 5, 1, 0, .b []⟩]⟩
def wNew_ct (n : Nat) (r : Unit) : Ct := ct0 fun H => ([wNew n = some r], shA H.length (kP 0 0), shH H.length [⟨.blk, 142, 1, 2, .c [.wh 1, .s (.v .nilIface)]⟩, ⟨.row, 145, 2, 1, .c [.s (.u8 0), .wh 2]⟩, ⟨.row, 5, 1, 0, .b []⟩])
theorem wNew_ok (n : Nat) (r : Unit) : FnOk Tryz.prog Tr 68 (wNew_ct n r) := by
 refine fnok Tryz.func68 ?_
 refine HO_0 tabO_nwa (wNew_R r) [.tmp 0] [0, 1, 2] 4 Tryz.func68 fun w hG h => ?_
 unfold wNew at h
 have hT := tabO_nwa
 refine Vrs hT [] ⟨[], [], []⟩ ?_
 refine Vrs hT [1, 0] ⟨[(0, kP 0 0)], [], [⟨.blk, 142, 1, 2, .c [.wh 1, .s (.v .nilIface)]⟩, ⟨.row, 145, 2, 1, .c [.s (.u8 0), .nils]⟩]⟩ ?_
 refine Vc [.nlc 1 1 5 1 (.b []) none] [0, 1, 2] (wNew_R ()) (W_ret ?_)
 exact ⟨.inl rfl, by cases h; rfl⟩
def wOpen1_R (a0_0 : UInt8) (a0_1 : List UInt8) (a1 : UInt8) (r : Unit) : S := ⟨[], [(1000000, kP 0 0)], [⟨.blk, 142, 1, 2, .c [.wh 1, .s (.er 37 .i64 none)]⟩, ⟨.row, 145, 2, 2, .c [.s (.u8 a0_0), .wh 2, .s (.u8 a1), .wh 3]⟩, nb 5 a0_1, ⟨.row, 5, 1, 0, .b []⟩]⟩
def wOpen1_ct (n : Nat) (r : Unit) : CtM := ctM (cmm (mP 142 (mC (mR 145 2 1 (mC mU8 (mC (mB 5) mN))) (mC (mE0 37) mN))) fun y0 => cmc rU8.rd fun l1 => cmR (wOpen1 n y0.1.1 y0.1.2.1 l1 = some r) (.t []) [⟨.blk, 142, 1, 2, .c [.wh 0, .s (.er 37 .i64 none)]⟩] [⟨.row, 145, 2, 2, .c [.s (.u8 y0.1.1), .wh 1, .s (.u8 l1), .wh 2]⟩, nb 5 y0.1.2.1, ⟨.row, 5, 1, 0, .b []⟩])
theorem wOpen1_ok (n : Nat) (r : Unit) : FnMOk Tryz.prog 69 (wOpen1_ct n r) := by
 refine fnokM Tryz.func69 ?_
 refine HM_m (mP 142 (mC (mR 145 2 1 (mC mU8 (mC (mB 5) mN))) (mC (mE0 37) mN))) (fun (p0 : ((((UInt8) × (List UInt8) × Unit)) × (Unit) × Unit)) => ?_) (allOwn_ok rfl)
 obtain ⟨⟨l0_0, l0_1, _⟩, _, _⟩ := p0
 refine HM_c rU8 fun l1 _ => HM_0 tabO_nwa (wOpen1_R l0_0 l0_1 l1 r) [] [0, 1, 2, 3] 43 1 Tryz.func69 fun w bs h => ?_
 have h : wOpen1 n l0_0 l0_1 l1 = some r := h
 unfold wOpen1 at h
 have hT := tabO_nwa
 refine W_block ?_
 refine Vrs hT [0, 1, 2] ⟨[(0, kP 0 0), (1, kU l1), (15, kB false)], [(1000000, kP 0 0)], [⟨.blk, 142, 1, 2, .c [.wh 1, .s (.er 37 .i64 none)]⟩, ⟨.row, 145, 2, 1, .c [.s (.u8 l0_0), .wh 2]⟩, nb 5 l0_1]⟩ ?_
 refine Vi (false) (fun hb => by cases hb) (fun _ => ?_)
 refine W_seq ?_
 obtain ⟨r23, g1, h⟩ := bind_some' h
 rcases Bool.eq_false_or_eq_true (!r23) with g2 | g2
 ·replace h := bif_t h g2
  refine Vg hT (fT 1 (tvalid_ok n r23) fN) [(3, true)] [] [0, 1, 2] ⟨[(0, kP 0 0), (1, kU l1), (21, kB true)], [(1000000, kP 0 0)], [⟨.blk, 142, 1, 2, .c [.wh 1, .s (.er 37 .i64 none)]⟩, ⟨.row, 145, 2, 1, .c [.s (.u8 l0_0), .wh 2]⟩, nb 5 l0_1]⟩ (aP g1 (aP g2 aN)) ?_
  refine Vi (true) (fun _ => ?_) (fun hb => by cases hb)
  cases h
 ·replace h := bif_f h g2
  obtain ⟨r27, g3, h⟩ := bind_some' h
  refine Vg hT (fT 1 (tvalid_ok n r23) (fT 5 (tisW_ok n r27) fN)) [(3, false)] [] [0, 1, 2] ⟨[(0, kP 0 0), (1, kU l1), (21, kB (!r27))], [(1000000, kP 0 0)], [⟨.blk, 142, 1, 2, .c [.wh 1, .s (.er 37 .i64 none)]⟩, ⟨.row, 145, 2, 1, .c [.s (.u8 l0_0), .wh 2]⟩, nb 5 l0_1]⟩ (aP g1 (aP g2 (aP g3 aN))) ?_
  refine Vi ((!r27)) (fun g5 => ?_) (fun g5 => ?_)
  ·replace h := bif_t h g5
   cases h
  ·replace h := bif_f h g5
   refine Vrs hT [0, 1, 2] ⟨[(0, kP 0 0), (1, kU l1), (33, kB false)], [(1000000, kP 0 0)], [⟨.blk, 142, 1, 2, .c [.wh 1, .s (.er 37 .i64 none)]⟩, ⟨.row, 145, 2, 1, .c [.s (.u8 l0_0), .wh 2]⟩, nb 5 l0_1]⟩ ?_
   refine Vi (false) (fun hb => by cases hb) (fun _ => ?_)
   obtain ⟨g4, h⟩ := gd_some h
   refine Vg hT fN [] [.nlc 4 3 5 1 (.b []) none] [0, 4, 2, 5] (wOpen1_R l0_0 l0_1 l1 ()) (aP g4 aN) ?_
   exact ⟨.inr rfl, by cases h; rfl⟩
def wadd1_R (a0_0 : UInt8) (r : List UInt8) : S := ⟨[], [(1000000, kP 0 0)], [⟨.blk, 142, 1, 2, .c [.wh 1, .s (.er 37 .i64 none)]⟩, ⟨.row, 145, 2, 1, .c [.s (.u8 a0_0), .wh 2]⟩, nb 5 r]⟩
def wadd1_ct (n : Nat) (r : List UInt8) : CtM := ctM (cmm (mP 142 (mC (mR 145 2 1 (mC mU8 (mC (mB 5) mN))) (mC (mE0 37) mN))) fun y0 => cmc rU8.rd fun l1 => cmb fun l2 => cmR (wadd1 n y0.1.1 y0.1.2.1 l1 l2 = some r) (.t []) [⟨.blk, 142, 1, 2, .c [.wh 0, .s (.er 37 .i64 none)]⟩] [⟨.row, 145, 2, 1, .c [.s (.u8 y0.1.1), .wh 1]⟩, nb 5 r])
theorem wadd1_ok (n : Nat) (r : List UInt8) : FnMOk Tryz.prog 101 (wadd1_ct n r) := by
 refine fnokM Tryz.func101 ?_
 refine HM_m (mP 142 (mC (mR 145 2 1 (mC mU8 (mC (mB 5) mN))) (mC (mE0 37) mN))) (fun (p0 : ((((UInt8) × (List UInt8) × Unit)) × (Unit) × Unit)) => ?_) (allOwn_ok rfl)
 obtain ⟨⟨l0_0, l0_1, _⟩, _, _⟩ := p0
 refine HM_c rU8 fun l1 _ => HM_b 5 fun l2 => HM_0 tabO_nwa (wadd1_R l0_0 r) [] [0, 1, 2] 43 1 Tryz.func101 fun w bs h => ?_
 have h : wadd1 n l0_0 l0_1 l1 l2 = some r := h
 unfold wadd1 at h
 have hT := tabO_nwa
 obtain ⟨r13, g1, h⟩ := bind_some' h
 refine Vgs hT (fT 3 (tHead_ok n r13) fN) [] [] [0, 1, 2, 3, 4] ⟨[(0, kP 0 0), (2, kH 3), (6, kH 4), (7, kE 37 r13.2)], [(1000000, kP 0 0)], [⟨.blk, 142, 1, 2, .c [.wh 1, .s (.er 37 .i64 none)]⟩, ⟨.row, 145, 2, 1, .c [.s (.u8 l0_0), .wh 2]⟩, nb 5 l0_1, ob 5 l2, nb 5 r13.1]⟩ (aP g1 aN) ?_
 refine W_seq ?_
 refine Vrs hT [0, 1, 2, 3, 4] ⟨[(0, kP 0 0), (2, kH 3), (6, kH 4), (7, kE 37 r13.2), (17, kB (!((r13.2).isNone)))], [(1000000, kP 0 0)], [⟨.blk, 142, 1, 2, .c [.wh 1, .s (.er 37 .i64 none)]⟩, ⟨.row, 145, 2, 1, .c [.s (.u8 l0_0), .wh 2]⟩, nb 5 l0_1, ob 5 l2, nb 5 r13.1]⟩ ?_
 refine Vi ((!((r13.2).isNone))) (fun g9 => ?_) (fun g9 => ?_)
 ·replace h := bif_t h g9
  refine W_seq ?_
  cases h
 ·replace h := bif_f h g9
  refine W_skip ?_
  obtain ⟨g2, g3, g4, h⟩ := gd3 h
  refine Vds hT fN 10 [] [(2, false), (6, false), (24, false), (30, false)] [] [0, 1, 2, 3, 4] ⟨[(2, kH 3), (6, kH 4), (8, kP 1 0)], [(1000000, kP 0 0)], [⟨.blk, 142, 1, 2, .c [.wh 1, .s (.er 37 .i64 none)]⟩, ⟨.row, 145, 2, 1, .c [.s (.u8 l0_0), .wh 2]⟩, nb 5 l0_1, ob 5 l2, nb 5 r13.1]⟩ (aP g2 (aP g3 (aP g4 aN))) ?_
  obtain ⟨g5, g6, g7, g8, h⟩ := gd4 h
  refine Vg hT fN [] [] [0, 1, 6] (wadd1_R l0_0 ((l0_1 ++ r13.1) ++ l2)) (aP g5 (aP g6 (aP g7 (aP g8 aN)))) ?_
  exact ⟨.inr rfl, by cases h; rfl⟩
def wadd2_R (a0_0 : UInt8) (a0_1 : List UInt8) (a0_2 : UInt8) (r : List UInt8) : S := ⟨[], [(1000000, kP 0 0)], [⟨.blk, 142, 1, 2, .c [.wh 1, .s (.er 37 .i64 none)]⟩, ⟨.row, 145, 2, 2, .c [.s (.u8 a0_0), .wh 2, .s (.u8 a0_2), .wh 3]⟩, nb 5 a0_1, nb 5 r]⟩
def wadd2_ct (n : Nat) (r : List UInt8) : CtM := ctM (cmm (mP 142 (mC (mR 145 2 2 (mC mU8 (mC (mB 5) (mC mU8 (mC (mB 5) mN))))) (mC (mE0 37) mN))) fun y0 => cmc rU8.rd fun l1 => cmb fun l2 => cmR (wadd2 n y0.1.1 y0.1.2.1 y0.1.2.2.1 y0.1.2.2.2.1 l1 l2 = some r) (.t []) [⟨.blk, 142, 1, 2, .c [.wh 0, .s (.er 37 .i64 none)]⟩] [⟨.row, 145, 2, 2, .c [.s (.u8 y0.1.1), .wh 1, .s (.u8 y0.1.2.2.1), .wh 2]⟩, nb 5 y0.1.2.1, nb 5 r])
theorem wadd2_ok (n : Nat) (r : List UInt8) : FnMOk Tryz.prog 101 (wadd2_ct n r) := by
 refine fnokM Tryz.func101 ?_
 refine HM_m (mP 142 (mC (mR 145 2 2 (mC mU8 (mC (mB 5) (mC mU8 (mC (mB 5) mN))))) (mC (mE0 37) mN))) (fun (p0 : ((((UInt8) × (List UInt8) × (UInt8) × (List UInt8) × Unit)) × (Unit) × Unit)) => ?_) (allOwn_ok rfl)
 obtain ⟨⟨l0_0, l0_1, l0_2, l0_3, _⟩, _, _⟩ := p0
 refine HM_c rU8 fun l1 _ => HM_b 5 fun l2 => HM_0 tabO_nwa (wadd2_R l0_0 l0_1 l0_2 r) [] [0, 1, 2, 3] 43 1 Tryz.func101 fun w bs h => ?_
 have h : wadd2 n l0_0 l0_1 l0_2 l0_3 l1 l2 = some r := h
 unfold wadd2 at h
 have hT := tabO_nwa
 obtain ⟨r13, g1, h⟩ := bind_some' h
 refine Vgs hT (fT 3 (tHead_ok n r13) fN) [] [] [0, 1, 2, 3, 4, 5] ⟨[(0, kP 0 0), (2, kH 4), (6, kH 5), (7, kE 37 r13.2)], [(1000000, kP 0 0)], [⟨.blk, 142, 1, 2, .c [.wh 1, .s (.er 37 .i64 none)]⟩, ⟨.row, 145, 2, 2, .c [.s (.u8 l0_0), .wh 2, .s (.u8 l0_2), .wh 3]⟩, nb 5 l0_1, nb 5 l0_3, ob 5 l2, nb 5 r13.1]⟩ (aP g1 aN) ?_
 refine W_seq ?_
 refine Vrs hT [0, 1, 2, 3, 4, 5] ⟨[(0, kP 0 0), (2, kH 4), (6, kH 5), (7, kE 37 r13.2), (17, kB (!((r13.2).isNone)))], [(1000000, kP 0 0)], [⟨.blk, 142, 1, 2, .c [.wh 1, .s (.er 37 .i64 none)]⟩, ⟨.row, 145, 2, 2, .c [.s (.u8 l0_0), .wh 2, .s (.u8 l0_2), .wh 3]⟩, nb 5 l0_1, nb 5 l0_3, ob 5 l2, nb 5 r13.1]⟩ ?_
 refine Vi ((!((r13.2).isNone))) (fun g9 => ?_) (fun g9 => ?_)
 ·replace h := bif_t h g9
  refine W_seq ?_
  cases h
 ·replace h := bif_f h g9
  refine W_skip ?_
  obtain ⟨g2, g3, g4, h⟩ := gd3 h
  refine Vds hT fN 10 [] [(2, false), (6, false), (24, false), (30, false)] [] [0, 1, 2, 3, 4, 5] ⟨[(2, kH 4), (6, kH 5), (8, kP 1 2)], [(1000000, kP 0 0)], [⟨.blk, 142, 1, 2, .c [.wh 1, .s (.er 37 .i64 none)]⟩, ⟨.row, 145, 2, 2, .c [.s (.u8 l0_0), .wh 2, .s (.u8 l0_2), .wh 3]⟩, nb 5 l0_1, nb 5 l0_3, ob 5 l2, nb 5 r13.1]⟩ (aP g2 (aP g3 (aP g4 aN))) ?_
  obtain ⟨g5, g6, g7, g8, h⟩ := gd4 h
  refine Vg hT fN [] [] [0, 1, 2, 7] (wadd2_R l0_0 l0_1 l0_2 ((l0_3 ++ r13.1) ++ l2)) (aP g5 (aP g6 (aP g7 (aP g8 aN)))) ?_
  exact ⟨.inr rfl, by cases h; rfl⟩
def wPut2_R (a0_0 : UInt8) (a0_1 : List UInt8) (a0_2 : UInt8) (r : List UInt8) : S := ⟨[], [(1000000, kP 0 0)], [⟨.blk, 142, 1, 2, .c [.wh 1, .s (.er 37 .i64 none)]⟩, ⟨.row, 145, 2, 2, .c [.s (.u8 a0_0), .wh 2, .s (.u8 a0_2), .wh 3]⟩, nb 5 a0_1, nb 5 r]⟩
def wPut2_ct (n : Nat) (r : List UInt8) : CtM := ctM (cmm (mP 142 (mC (mR 145 2 2 (mC mU8 (mC (mB 5) (mC mU8 (mC (mB 5) mN))))) (mC (mE0 37) mN))) fun y0 => cmc rU8.rd fun l1 => cmb fun l2 => cmR (wPut2 n y0.1.1 y0.1.2.1 y0.1.2.2.1 y0.1.2.2.2.1 l1 l2 = some r) (.t []) [⟨.blk, 142, 1, 2, .c [.wh 0, .s (.er 37 .i64 none)]⟩] [⟨.row, 145, 2, 2, .c [.s (.u8 y0.1.1), .wh 1, .s (.u8 y0.1.2.2.1), .wh 2]⟩, nb 5 y0.1.2.1, nb 5 r])
theorem wPut2_ok (n : Nat) (r : List UInt8) : FnMOk Tryz.prog 70 (wPut2_ct n r) := by
 refine fnokM Tryz.func70 ?_
 refine HM_m (mP 142 (mC (mR 145 2 2 (mC mU8 (mC (mB 5) (mC mU8 (mC (mB 5) mN))))) (mC (mE0 37) mN))) (fun (p0 : ((((UInt8) × (List UInt8) × (UInt8) × (List UInt8) × Unit)) × (Unit) × Unit)) => ?_) (allOwn_ok rfl)
 obtain ⟨⟨l0_0, l0_1, l0_2, l0_3, _⟩, _, _⟩ := p0
 refine HM_c rU8 fun l1 _ => HM_b 5 fun l2 => HM_0 tabO_nwa (wPut2_R l0_0 l0_1 l0_2 r) [] [0, 1, 2, 3] 27 1 Tryz.func70 fun w bs h => ?_
 have h : wPut2 n l0_0 l0_1 l0_2 l0_3 l1 l2 = some r := h
 unfold wPut2 at h
 have hT := tabO_nwa
 refine W_block ?_
 refine Vrs hT [0, 1, 2, 3, 4] ⟨[(0, kP 0 0), (1, kU l1), (2, kH 4), (10, kB false)], [(1000000, kP 0 0)], [⟨.blk, 142, 1, 2, .c [.wh 1, .s (.er 37 .i64 none)]⟩, ⟨.row, 145, 2, 2, .c [.s (.u8 l0_0), .wh 2, .s (.u8 l0_2), .wh 3]⟩, nb 5 l0_1, nb 5 l0_3, ob 5 l2]⟩ ?_
 refine Vi (false) (fun hb => by cases hb) (fun _ => ?_)
 refine W_seq ?_
 obtain ⟨r18, g1, h⟩ := bind_some' h
 rcases Bool.eq_false_or_eq_true (!r18) with g2 | g2
 ·replace h := bif_t h g2
  refine Vg hT (fT 1 (tvalid_ok n r18) fN) [(3, true)] [] [0, 1, 2, 3, 4] ⟨[(0, kP 0 0), (1, kU l1), (2, kH 4), (16, kB true)], [(1000000, kP 0 0)], [⟨.blk, 142, 1, 2, .c [.wh 1, .s (.er 37 .i64 none)]⟩, ⟨.row, 145, 2, 2, .c [.s (.u8 l0_0), .wh 2, .s (.u8 l0_2), .wh 3]⟩, nb 5 l0_1, nb 5 l0_3, ob 5 l2]⟩ (aP g1 (aP g2 aN)) ?_
  refine Vi (true) (fun _ => ?_) (fun hb => by cases hb)
  cases h
 ·replace h := bif_f h g2
  obtain ⟨r22, g3, h⟩ := bind_some' h
  refine Vg hT (fT 1 (tvalid_ok n r18) (fT 5 (tisW_ok n r22) fN)) [(3, false)] [] [0, 1, 2, 3, 4] ⟨[(0, kP 0 0), (1, kU l1), (2, kH 4), (16, kB r22)], [(1000000, kP 0 0)], [⟨.blk, 142, 1, 2, .c [.wh 1, .s (.er 37 .i64 none)]⟩, ⟨.row, 145, 2, 2, .c [.s (.u8 l0_0), .wh 2, .s (.u8 l0_2), .wh 3]⟩, nb 5 l0_1, nb 5 l0_3, ob 5 l2]⟩ (aP g1 (aP g2 (aP g3 aN))) ?_
  refine Vi (r22) (fun g5 => ?_) (fun g5 => ?_)
  ·replace h := bif_t h g5
   cases h
  ·replace h := bif_f h g5
   obtain ⟨r9, g4, h⟩ := bind_some' h
   refine Vg hT (fM 3 (wadd2_ok n r9) fN) [] [] [0, 5, 6, 7] (wPut2_R l0_0 l0_1 l0_2 r9) (aP g4 aN) ?_
   exact ⟨.inr rfl, by cases h; rfl⟩
def wClose2_R (a0_0 : UInt8) (r : List UInt8) : S := ⟨[], [(1000000, kP 0 0)], [⟨.blk, 142, 1, 2, .c [.wh 1, .s (.er 37 .i64 none)]⟩, ⟨.row, 145, 2, 1, .c [.s (.u8 a0_0), .wh 2]⟩, nb 5 r]⟩
def wClose2_ct (n : Nat) (r : List UInt8) : CtM := ctM (cmm (mP 142 (mC (mR 145 2 2 (mC mU8 (mC (mB 5) (mC mU8 (mC (mB 5) mN))))) (mC (mE0 37) mN))) fun y0 => cmR (wClose2 n y0.1.1 y0.1.2.1 y0.1.2.2.1 y0.1.2.2.2.1 = some r) (.t []) [⟨.blk, 142, 1, 2, .c [.wh 0, .s (.er 37 .i64 none)]⟩] [⟨.row, 145, 2, 1, .c [.s (.u8 y0.1.1), .wh 1]⟩, nb 5 r])
theorem wClose2_ok (n : Nat) (r : List UInt8) : FnMOk Tryz.prog 71 (wClose2_ct n r) := by
 refine fnokM Tryz.func71 ?_
 refine HM_m (mP 142 (mC (mR 145 2 2 (mC mU8 (mC (mB 5) (mC mU8 (mC (mB 5) mN))))) (mC (mE0 37) mN))) (fun (p0 : ((((UInt8) × (List UInt8) × (UInt8) × (List UInt8) × Unit)) × (Unit) × Unit)) => ?_) (allOwn_ok rfl)
 obtain ⟨⟨l0_0, l0_1, l0_2, l0_3, _⟩, _, _⟩ := p0
 refine HM_0 tabO_nwa (wClose2_R l0_0 r) [] [0, 1, 2] 51 1 Tryz.func71 fun w bs h => ?_
 have h : wClose2 n l0_0 l0_1 l0_2 l0_3 = some r := h
 unfold wClose2 at h
 have hT := tabO_nwa
 refine W_block ?_
 refine Vrs hT [0, 1, 2, 3] ⟨[(0, kP 0 0), (35, kB false)], [(1000000, kP 0 0)], [⟨.blk, 142, 1, 2, .c [.wh 1, .s (.er 37 .i64 none)]⟩, ⟨.row, 145, 2, 2, .c [.s (.u8 l0_0), .wh 2, .s (.u8 l0_2), .wh 3]⟩, nb 5 l0_1, nb 5 l0_3]⟩ ?_
 refine Vi (false) (fun hb => by cases hb) (fun _ => ?_)
 refine Vrs hT [0, 1, 2, 3] ⟨[(0, kP 0 0), (41, kB false)], [(1000000, kP 0 0)], [⟨.blk, 142, 1, 2, .c [.wh 1, .s (.er 37 .i64 none)]⟩, ⟨.row, 145, 2, 2, .c [.s (.u8 l0_0), .wh 2, .s (.u8 l0_2), .wh 3]⟩, nb 5 l0_1, nb 5 l0_3]⟩ ?_
 refine Vi (false) (fun hb => by cases hb) (fun _ => ?_)
 obtain ⟨g1, g2, g3, g4, h⟩ := gd4 h
 refine Vds hT fN 13 [] [(0, false), (2, false), (14, false)] [] [0, 1, 2, 3, 4] ⟨[(0, kP 0 0), (2, kP 4 0)], [(1000000, kP 0 0)], [⟨.blk, 142, 1, 2, .c [.wh 1, .s (.er 37 .i64 none)]⟩, ⟨.row, 145, 2, 2, .c [.s (.u8 l0_0), .wh 2, .s (.u8 l0_2), .wh 3]⟩, nb 5 l0_1, nb 5 l0_3, ⟨.blk, 145, 1, 2, .c [.s (.u8 l0_2), .wh 3]⟩]⟩ (aP g1 (aP g2 (aP g3 (aP g4 aN)))) ?_
 obtain ⟨g5, g6, g7, h⟩ := gd3 h
 refine Vds hT fN 13 [] [(0, false), (2, false), (26, false), (27, false)] [.cut 0 0] [0, 5, 2, 4, 3] ⟨[(0, kP 0 0), (2, kP 3 0)], [(1000000, kP 0 0)], [⟨.blk, 142, 1, 2, .c [.wh 1, .s (.er 37 .i64 none)]⟩, ⟨.row, 145, 2, 1, .c [.s (.u8 l0_0), .wh 2]⟩, nb 5 l0_1, ⟨.blk, 145, 1, 2, .c [.s (.u8 l0_2), .wh 4]⟩, nb 5 l0_3]⟩ (aP g5 (aP g6 (aP g7 aN))) ?_
 obtain ⟨r34, g8, h⟩ := bind_some' h
 refine Vg hT (fM 5 (wadd1_ok n r34) fN) [] [] [0, 5, 6] (wClose2_R l0_0 r34) (aP g8 aN) ?_
 exact ⟨.inr rfl, by cases h; rfl⟩
def wBytes1_R (a0_0 : UInt8) (a0_1 : List UInt8) (r : Unit) : S := ⟨[(2, kH 3), (3, kE 37 none)], [(1000000, kP 0 0)], [⟨.blk, 142, 1, 2, .c [.wh 1, .s (.er 37 .i64 none)]⟩, ⟨.row, 145, 2, 1, .c [.s (.u8 a0_0), .wh 2]⟩, nb 5 a0_1, nb 5 a0_1]⟩
def wBytes1_ct (n : Nat) (r : Unit) : CtM := ctM (cmm (mP 142 (mC (mR 145 2 1 (mC mU8 (mC (mB 5) mN))) (mC (mE0 37) mN))) fun y0 => cmR (wBytes1 n y0.1.1 y0.1.2.1 = some r) (.t [.c (.wh 2), .c (.s (.er 37 .i64 none))]) [⟨.blk, 142, 1, 2, .c [.wh 0, .s (.er 37 .i64 none)]⟩] [⟨.row, 145, 2, 1, .c [.s (.u8 y0.1.1), .wh 1]⟩, nb 5 y0.1.2.1, nb 5 y0.1.2.1])
theorem wBytes1_ok (n : Nat) (r : Unit) : FnMOk Tryz.prog 72 (wBytes1_ct n r) := by
 refine fnokM Tryz.func72 ?_
 refine HM_m (mP 142 (mC (mR 145 2 1 (mC mU8 (mC (mB 5) mN))) (mC (mE0 37) mN))) (fun (p0 : ((((UInt8) × (List UInt8) × Unit)) × (Unit) × Unit)) => ?_) (allOwn_ok rfl)
 obtain ⟨⟨l0_0, l0_1, _⟩, _, _⟩ := p0
 refine HM_0 tabO_nwa (wBytes1_R l0_0 l0_1 r) [.tmp 2, .tmp 3] [0, 1, 2, 3] 30 1 Tryz.func72 fun w bs h => ?_
 have h : wBytes1 n l0_0 l0_1 = some r := h
 unfold wBytes1 at h
 have hT := tabO_nwa
 refine Vrs hT [0, 1, 2] ⟨[(0, kP 0 0)], [(1000000, kP 0 0)], [⟨.blk, 142, 1, 2, .c [.wh 1, .s (.er 37 .i64 none)]⟩, ⟨.row, 145, 2, 1, .c [.s (.u8 l0_0), .wh 2]⟩, nb 5 l0_1]⟩ ?_
 refine W_seq ?_
 refine W_block ?_
 refine Vrs hT [0, 1, 2] ⟨[(0, kP 0 0), (4, kB false)], [(1000000, kP 0 0)], [⟨.blk, 142, 1, 2, .c [.wh 1, .s (.er 37 .i64 none)]⟩, ⟨.row, 145, 2, 1, .c [.s (.u8 l0_0), .wh 2]⟩, nb 5 l0_1]⟩ ?_
 refine Vi (false) (fun hb => by cases hb) (fun _ => ?_)
 refine Vrs hT [0, 1, 2] ⟨[(0, kP 0 0), (14, kB false)], [(1000000, kP 0 0)], [⟨.blk, 142, 1, 2, .c [.wh 1, .s (.er 37 .i64 none)]⟩, ⟨.row, 145, 2, 1, .c [.s (.u8 l0_0), .wh 2]⟩, nb 5 l0_1]⟩ ?_
 refine Vi (false) (fun hb => by cases hb) (fun _ => ?_)
 refine W_skip ?_
 obtain ⟨g1, g2, g3, g4, h⟩ := gd4 h
 refine Vgs hT (fT 7 cloneb_h fN) [] [] [0, 1, 2, 3] ⟨[(2, kH 3), (3, .c (.s (.v .nilIface)))], [(1000000, kP 0 0)], [⟨.blk, 142, 1, 2, .c [.wh 1, .s (.er 37 .i64 none)]⟩, ⟨.row, 145, 2, 1, .c [.s (.u8 l0_0), .wh 2]⟩, nb 5 l0_1, nb 5 l0_1]⟩ (aP g1 (aP g2 (aP g3 (aP g4 aN)))) ?_
 refine Vc [.er 3 37 .i64] [0, 1, 2, 3] (wBytes1_R l0_0 l0_1 ()) (W_ret ?_)
 exact ⟨.inl rfl, by cases h; rfl⟩
end Go.Proofs.YtiojofjllkhbhaaGreat
end
section
namespace Go.Proofs.YtiojofjllkhbhaaGreat
open Go.RowKit Go.Ch Go.Sx Go.Lib Go.Proofs
theorem bytesOf_sl {P : Program} (w : World) {B : Nat} {v : Value} {l : List UInt8} (hv : Sl w B v (l.map bU)) : (Extern.Bytes.bytesOf v).run P w = .ok ⟨l.toArray⟩ w := by
 obtain ⟨_, A, c, rfl, _, _, _, h4⟩ := hv
 cases A with
 | none =>
  have hl : l = [] := by
   cases l with
   | nil => rfl
   | cons x l => have h1 := ‹(List.map bU (x :: l)).length ≤ c›; have h2 := ‹(none : Option Addr) = none → c = 0› rfl; simp at h1; omega
  subst hl
  simp [Extern.Bytes.bytesOf]; rfl
 | some a =>
  have e : l.map bU = (l.map fun x => ((x.toNat : Nat) : Int)).map (Value.int .u8) := by simp [bU, Function.comp_def]
  have h := run_loadBytesX (P := P) w (l.map fun x => ((x.toNat : Nat) : Int)) a .empty (fun j x hx => (h4 a rfl j _ (by rw [e, List.getElem?_map, hx]; rfl)).2)
  simp only [Extern.Bytes.bytesOf, List.length_map] at h ⊢
  rw [h]
  congr 1
  apply ByteArray.ext
  have e2 : Go.Lib.bytesOf (l.map fun x => ((x.toNat : Nat) : Int)) = l := by
   unfold Go.Lib.bytesOf
   rw [List.map_map]
   conv => rhs; rw [← List.map_id l]
   apply List.map_congr_left; intro x _; simp
  rw [e2]
  simp
set_option maxHeartbeats 1000000 in
set_option maxRecDepth 100000 in
theorem cmp_c (w : World) (B0 B1 : Nat) (v0 v1 : Value) (l0 l1 : List UInt8) (h0 : Sl w B0 v0 (l0.map bU)) (h1 : Sl w B1 v1 (l1.map bU)) :
  Calls Tryz.prog 36 #[v0, v1] w (Ret fun v w' => Ext w w' ∧ v = .int .i64 (Lib.compareBytes l0 l1)) := by
 go_enter Tryz.func36, Tryz.ntmps36
 go_wp2
 rw [run_callFunc_extern Tryz.func73 (by kernel_rfl) (by kernel_rfl) (by kernel_rfl) (e := Extern.BytealgCompare.compare) (by kernel_rfl)]
 have hr : (Extern.BytealgCompare.compare #[v0, v1]).run Tryz.prog w = .ok (.int .i64 (Lib.compareBytes l0 l1)) w := by
  change Sem.run Tryz.prog (do pure (goInt (Extern.BytealgCompare.cmp (← Extern.Bytes.bytesOf v0) (← Extern.Bytes.bytesOf v1)))) w = _
  simp only [Sem.run_bind, bytesOf_sl w h0, bytesOf_sl w h1, Sem.run_pure, Result.andThen]
  rw [cmp_eq]
  rfl
 rw [hr]
 simp only [Result.andThen]
 rw [Oper.upon_value]
 go_wp2
 go_ret
 exact ⟨_, rfl, Below.refl _ _, rfl⟩
def cmp_ct : Ct := ctc aB fun _ l0 => ctc aB fun _ l1 => ct0 fun _ => ([], kI (Lib.compareBytes l0 l1), [])
theorem cmp_h : FnOk Tryz.prog Tr 36 cmp_ct := by
 refine ⟨fun args H g av objs hF hg ρ w vals hG hp ha => ?_, _, Tryz.func36, by kernel_rfl, by kernel_rfl⟩
 obtain ⟨x0, _, l0, rfl, e0, hF⟩ := ctc_inv hF
 obtain ⟨x1, _, l1, rfl, e1, hF⟩ := ctc_inv hF
 obtain ⟨rfl, rfl, rfl, rfl⟩ := ct0_inv hF
 obtain ⟨v0, vals, rfl, k0, ha⟩ := F2.inv ha
 obtain ⟨v1, vals, rfl, k1, ha⟩ := F2.inv ha
 obtain rfl := F2.inv0 ha
 obtain ⟨p0, hI0⟩ := aB_ok hp e0 k0 5
 obtain ⟨p1, hI1⟩ := aB_ok hp e1 k1 5
 exact calls_mono (cmp_c w _ _ v0 v1 l0 l1 (hI0.sl (fun _ _ h => csR_b.1 h) (by simp)) (hI1.sl (fun _ _ h => csR_b.1 h) (by simp))) fun v w' ⟨hx, hv⟩ => ⟨hx, left_val fun ρ => hv⟩
end Go.Proofs.YtiojofjllkhbhaaGreat
end
