import Derived.Test.YtliilihbnhdemaaZ2
import Derived.Test.YtliilihbnhdemaaProg
set_option linter.unusedVariables false
set_option linter.unusedSimpArgs false
section
namespace Go.Proofs.Ytliilihbnhdemaa
open Go.RowKit Go.Ch Go.Sx
def tabL_tb : List (TypeId × Ti) := [(3, ⟨.int .i64, 1, 8, true, some [.int .i64]⟩),
 (5, ⟨.int .u8, 1, 1, true, some [.int .u8]⟩),
 (9, ⟨.str, 1, 16, true, some [.str]⟩),
 (22, ⟨.sl 5, 1, 24, false, some [.nils]⟩),
 (28, ⟨.ifc, 1, 16, true, some [.ifc]⟩),
 (31, ⟨.int .i64, 1, 8, true, some [.int .i64]⟩)]
def tab_tb : Tab := fun t => (tabL_tb).lookup t
theorem tabE_tb : (tabL_tb.map fun p => tiOf Try.prog p.1) = tabL_tb.map fun p => some p.2 := by kernel_rfl
theorem tabO_tb : TabOk Try.prog tab_tb := tab_of tabE_tb
def pText_j1 (n : Nat) (p5_2 : Bool) : Option (Option Int) :=
 bif (!p5_2) then
 some (some 2)
 else
 some none
def pText (n : Nat) (a0 : UInt8) (a1 : List UInt8) : Option (Option Int) :=
 bif (a0 == 12) then
 gd ((a1).length ≤ 1000000) <|
 pText_j1 n (ptsF a1)
 else
 bif (a0 == 19) then
 pText_j1 n (!((a1).any prtN))
 else
 bif (a0 == 22) then
 pText_j1 n (!((a1).any hiB))
 else
 some (some 1)
def rlater (n : Nat) (a0 : UInt8) : Option (Bool) :=
 bif (decide ((128 : UInt8) ≤ a0)) then
 some (decide (a0 < (192 : UInt8)))
 else
 some false
def rPoints_l2 (n : Nat) (a0 : List UInt8) (i3_2 : Int) (i5_8 : Int) (k_l1 : Int → Option (Bool)) : Nat → Int → Option (Bool)
 | 0, _ => none
 | fu_l2 + 1, i8_16 =>
  bif (decide (i8_16 ≤ i5_8)) then
   gd (okI .i64 (i3_2 + i8_16)) <|
   gd (0 ≤ (i3_2 + i8_16)) <|
   gd ((i3_2 + i8_16) < ((a0.length : Nat) : Int)) <|
   (rlater n (a0.getD ((i3_2 + i8_16).toNat) 0)).bind fun r90_20 =>
   bif (!r90_20) then
    some false
   else
    gd (okI .i64 (i8_16 + 1)) <|
    (rPoints_l2 n a0 i3_2 i5_8 k_l1 fu_l2) (i8_16 + 1)
  else
   gd (okI .i64 (i3_2 + 1)) <|
   gd (okI .i64 ((i3_2 + 1) + i5_8)) <|
   k_l1 ((i3_2 + 1) + i5_8)
def rPoints_l3 (n : Nat) (a0 : List UInt8) (i3_2 : Int) (i5_8 : Int) (k_l1 : Int → Option (Bool)) : Nat → Int → Option (Bool)
 | 0, _ => none
 | fu_l3 + 1, i8_17 =>
  bif (decide (i8_17 ≤ i5_8)) then
   gd (okI .i64 (i3_2 + i8_17)) <|
   gd (0 ≤ (i3_2 + i8_17)) <|
   gd ((i3_2 + i8_17) < ((a0.length : Nat) : Int)) <|
   (rlater n (a0.getD ((i3_2 + i8_17).toNat) 0)).bind fun r90_21 =>
   bif (!r90_21) then
    some false
   else
    gd (okI .i64 (i8_17 + 1)) <|
    (rPoints_l3 n a0 i3_2 i5_8 k_l1 fu_l3) (i8_17 + 1)
  else
   gd (okI .i64 (i3_2 + 1)) <|
   gd (okI .i64 ((i3_2 + 1) + i5_8)) <|
   k_l1 ((i3_2 + 1) + i5_8)
def rPoints_j5 (n : Nat) (a0 : List UInt8) (i3_2 : Int) (i5_8 : Int) (i6_17 : Int) (k_l1 : Int → Option (Bool)) (i7_17 : Int) : Option (Bool) :=
 gd (okI .i64 (i3_2 + i5_8)) <|
 bif (decide (((a0.length : Nat) : Int) ≤ (i3_2 + i5_8))) then
 some false
 else
 bif (decide ((0 : Int) < i5_8)) then
 gd (okI .i64 (i3_2 + 1)) <|
 gd (0 ≤ (i3_2 + 1)) <|
 gd ((i3_2 + 1) < ((a0.length : Nat) : Int)) <|
 bif (decide ((((a0.getD ((i3_2 + 1).toNat) 0).toNat : Nat) : Int) < i6_17)) then
 some false
 else
 gd (okI .i64 (i3_2 + 1)) <|
 gd (0 ≤ (i3_2 + 1)) <|
 gd ((i3_2 + 1) < ((a0.length : Nat) : Int)) <|
 bif (decide (i7_17 < (((a0.getD ((i3_2 + 1).toNat) 0).toNat : Nat) : Int))) then
 some false
 else
 rPoints_l2 n a0 i3_2 i5_8 k_l1 n 2
 else
 rPoints_l3 n a0 i3_2 i5_8 k_l1 n 2
def rPoints_j4 (n : Nat) (a0 : List UInt8) (i3_2 : Int) (i5_8 : Int) (i7_16 : Int) (k_l1 : Int → Option (Bool)) (i6_17 : Int) : Option (Bool) :=
 bif ((((a0.getD i3_2.toNat 0).toNat : Nat) : Int) == 244) then
 rPoints_j5 n a0 i3_2 i5_8 i6_17 k_l1 143
 else
 rPoints_j5 n a0 i3_2 i5_8 i6_17 k_l1 i7_16
def rPoints_j3 (n : Nat) (a0 : List UInt8) (i3_2 : Int) (i5_8 : Int) (i6_16 : Int) (k_l1 : Int → Option (Bool)) (i7_16 : Int) : Option (Bool) :=
 bif ((((a0.getD i3_2.toNat 0).toNat : Nat) : Int) == 240) then
 rPoints_j4 n a0 i3_2 i5_8 i7_16 k_l1 144
 else
 rPoints_j4 n a0 i3_2 i5_8 i7_16 k_l1 i6_16
def rPoints_j2 (n : Nat) (a0 : List UInt8) (i3_2 : Int) (i5_8 : Int) (k_l1 : Int → Option (Bool)) (i6_16 : Int) : Option (Bool) :=
 bif ((((a0.getD i3_2.toNat 0).toNat : Nat) : Int) == 237) then
 rPoints_j3 n a0 i3_2 i5_8 i6_16 k_l1 159
 else
 rPoints_j3 n a0 i3_2 i5_8 i6_16 k_l1 191
def rPoints_j1 (n : Nat) (a0 : List UInt8) (i3_2 : Int) (k_l1 : Int → Option (Bool)) (i5_8 : Int) : Option (Bool) :=
 bif ((((a0.getD i3_2.toNat 0).toNat : Nat) : Int) == 224) then
 rPoints_j2 n a0 i3_2 i5_8 k_l1 160
 else
 rPoints_j2 n a0 i3_2 i5_8 k_l1 128
def rPoints_l1 (n : Nat) (a0 : List UInt8) : Nat → Int → Option (Bool)
 | 0, _ => none
 | fu_l1 + 1, i3_2 =>
 bif (decide (i3_2 < ((a0.length : Nat) : Int))) then
 gd (0 ≤ i3_2) <|
 gd (i3_2 < ((a0.length : Nat) : Int)) <|
 bif (decide ((((a0.getD i3_2.toNat 0).toNat : Nat) : Int) < (128 : Int))) then
 rPoints_j1 n a0 i3_2 (rPoints_l1 n a0 fu_l1) 0
 else
 bif (decide ((194 : Int) ≤ (((a0.getD i3_2.toNat 0).toNat : Nat) : Int))) then
 bif (decide ((((a0.getD i3_2.toNat 0).toNat : Nat) : Int) ≤ (223 : Int))) then
 rPoints_j1 n a0 i3_2 (rPoints_l1 n a0 fu_l1) 1
 else
 bif (decide ((224 : Int) ≤ (((a0.getD i3_2.toNat 0).toNat : Nat) : Int))) then
 bif (decide ((((a0.getD i3_2.toNat 0).toNat : Nat) : Int) ≤ (239 : Int))) then
 rPoints_j1 n a0 i3_2 (rPoints_l1 n a0 fu_l1) 2
 else
 bif (decide ((240 : Int) ≤ (((a0.getD i3_2.toNat 0).toNat : Nat) : Int))) then
 bif (decide ((((a0.getD i3_2.toNat 0).toNat : Nat) : Int) ≤ (244 : Int))) then
 rPoints_j1 n a0 i3_2 (rPoints_l1 n a0 fu_l1) 3
 else
 some false
 else
 some false
 else
 bif (decide ((240 : Int) ≤ (((a0.getD i3_2.toNat 0).toNat : Nat) : Int))) then
 bif (decide ((((a0.getD i3_2.toNat 0).toNat : Nat) : Int) ≤ (244 : Int))) then
 rPoints_j1 n a0 i3_2 (rPoints_l1 n a0 fu_l1) 3
 else
 some false
 else
 some false
 else
 bif (decide ((224 : Int) ≤ (((a0.getD i3_2.toNat 0).toNat : Nat) : Int))) then
 bif (decide ((((a0.getD i3_2.toNat 0).toNat : Nat) : Int) ≤ (239 : Int))) then
 rPoints_j1 n a0 i3_2 (rPoints_l1 n a0 fu_l1) 2
 else
 bif (decide ((240 : Int) ≤ (((a0.getD i3_2.toNat 0).toNat : Nat) : Int))) then
 bif (decide ((((a0.getD i3_2.toNat 0).toNat : Nat) : Int) ≤ (244 : Int))) then
 rPoints_j1 n a0 i3_2 (rPoints_l1 n a0 fu_l1) 3
 else
 some false
 else
 some false
 else
 bif (decide ((240 : Int) ≤ (((a0.getD i3_2.toNat 0).toNat : Nat) : Int))) then
 bif (decide ((((a0.getD i3_2.toNat 0).toNat : Nat) : Int) ≤ (244 : Int))) then
 rPoints_j1 n a0 i3_2 (rPoints_l1 n a0 fu_l1) 3
 else
 some false
 else
 some false
 else
 some true
def rPoints (n : Nat) (a0 : List UInt8) : Option (Bool) :=
 rPoints_l1 n a0 n 0
def rText_j1 (n : Nat) (a0 : UInt8) (a1 : List UInt8) (i5_2 : Int) (k_l1 : Int → Option (Bool)) : Option (Bool) :=
 gd (okI .i64 (i5_2 + 1)) <|
 k_l1 (i5_2 + 1)
def rText_l2 (n : Nat) (a0 : UInt8) (a1 : List UInt8) (i5_2 : Int) (k_l1 : Int → Option (Bool)) : Nat → Int → Option (Bool)
 | 0, _ => none
 | fu_l2 + 1, i9_187 =>
 bif (decide (i9_187 < (([32, 39, 40, 41, 43, 44, 45, 46, 47, 58, 61, 63].length : Nat) : Int))) then
 gd (okI .i64 (i9_187 + 1)) <|
 (rText_l2 n a0 a1 i5_2 k_l1 fu_l2) (i9_187 + 1)
 else
 rText_j1 n a0 a1 i5_2 k_l1
def rText_l3 (n : Nat) (a0 : UInt8) (a1 : List UInt8) (i5_2 : Int) (k_l1 : Int → Option (Bool)) : Nat → Int → Option (Bool)
 | 0, _ => none
 | fu_l3 + 1, i9_188 =>
 bif (decide (i9_188 < (([32, 39, 40, 41, 43, 44, 45, 46, 47, 58, 61, 63].length : Nat) : Int))) then
 gd (okI .i64 (i9_188 + 1)) <|
 (rText_l3 n a0 a1 i5_2 k_l1 fu_l3) (i9_188 + 1)
 else
 rText_j1 n a0 a1 i5_2 k_l1
def rText_l4 (n : Nat) (a0 : UInt8) (a1 : List UInt8) (i5_2 : Int) (k_l1 : Int → Option (Bool)) : Nat → Bool → Int → Option (Bool)
 | 0, _, _ => none
 | fu_l4 + 1, p7_136, i9_189 =>
 bif (decide (i9_189 < (([32, 39, 40, 41, 43, 44, 45, 46, 47, 58, 61, 63].length : Nat) : Int))) then
 bif p7_136 then
 gd (okI .i64 (i9_189 + 1)) <|
 (rText_l4 n a0 a1 i5_2 k_l1 fu_l4) true (i9_189 + 1)
 else
 gd (0 ≤ i9_189) <|
 gd (i9_189 < (([32, 39, 40, 41, 43, 44, 45, 46, 47, 58, 61, 63].length : Nat) : Int)) <|
 gd (okI .i64 (i9_189 + 1)) <|
 (rText_l4 n a0 a1 i5_2 k_l1 fu_l4) ((a1.getD i5_2.toNat 0) == ([32, 39, 40, 41, 43, 44, 45, 46, 47, 58, 61, 63].getD i9_189.toNat 0)) (i9_189 + 1)
 else
 bif (!p7_136) then
 some false
 else
 rText_j1 n a0 a1 i5_2 k_l1
def rText_l5 (n : Nat) (a0 : UInt8) (a1 : List UInt8) (i5_2 : Int) (k_l1 : Int → Option (Bool)) : Nat → Bool → Int → Option (Bool)
 | 0, _, _ => none
 | fu_l5 + 1, p7_137, i9_190 =>
 bif (decide (i9_190 < (([32, 39, 40, 41, 43, 44, 45, 46, 47, 58, 61, 63].length : Nat) : Int))) then
 bif p7_137 then
 gd (okI .i64 (i9_190 + 1)) <|
 (rText_l5 n a0 a1 i5_2 k_l1 fu_l5) true (i9_190 + 1)
 else
 gd (0 ≤ i9_190) <|
 gd (i9_190 < (([32, 39, 40, 41, 43, 44, 45, 46, 47, 58, 61, 63].length : Nat) : Int)) <|
 gd (okI .i64 (i9_190 + 1)) <|
 (rText_l5 n a0 a1 i5_2 k_l1 fu_l5) ((a1.getD i5_2.toNat 0) == ([32, 39, 40, 41, 43, 44, 45, 46, 47, 58, 61, 63].getD i9_190.toNat 0)) (i9_190 + 1)
 else
 bif (!p7_137) then
 some false
 else
 rText_j1 n a0 a1 i5_2 k_l1
def rText_l6 (n : Nat) (a0 : UInt8) (a1 : List UInt8) (i5_2 : Int) (k_l1 : Int → Option (Bool)) : Nat → Bool → Int → Option (Bool)
 | 0, _, _ => none
 | fu_l6 + 1, p7_138, i9_191 =>
 bif (decide (i9_191 < (([32, 39, 40, 41, 43, 44, 45, 46, 47, 58, 61, 63].length : Nat) : Int))) then
 bif p7_138 then
 gd (okI .i64 (i9_191 + 1)) <|
 (rText_l6 n a0 a1 i5_2 k_l1 fu_l6) true (i9_191 + 1)
 else
 gd (0 ≤ i9_191) <|
 gd (i9_191 < (([32, 39, 40, 41, 43, 44, 45, 46, 47, 58, 61, 63].length : Nat) : Int)) <|
 gd (okI .i64 (i9_191 + 1)) <|
 (rText_l6 n a0 a1 i5_2 k_l1 fu_l6) ((a1.getD i5_2.toNat 0) == ([32, 39, 40, 41, 43, 44, 45, 46, 47, 58, 61, 63].getD i9_191.toNat 0)) (i9_191 + 1)
 else
 bif (!p7_138) then
 some false
 else
 rText_j1 n a0 a1 i5_2 k_l1
def rText_l7 (n : Nat) (a0 : UInt8) (a1 : List UInt8) (i5_2 : Int) (k_l1 : Int → Option (Bool)) : Nat → Bool → Int → Option (Bool)
 | 0, _, _ => none
 | fu_l7 + 1, p7_139, i9_192 =>
 bif (decide (i9_192 < (([32, 39, 40, 41, 43, 44, 45, 46, 47, 58, 61, 63].length : Nat) : Int))) then
 bif p7_139 then
 gd (okI .i64 (i9_192 + 1)) <|
 (rText_l7 n a0 a1 i5_2 k_l1 fu_l7) true (i9_192 + 1)
 else
 gd (0 ≤ i9_192) <|
 gd (i9_192 < (([32, 39, 40, 41, 43, 44, 45, 46, 47, 58, 61, 63].length : Nat) : Int)) <|
 gd (okI .i64 (i9_192 + 1)) <|
 (rText_l7 n a0 a1 i5_2 k_l1 fu_l7) ((a1.getD i5_2.toNat 0) == ([32, 39, 40, 41, 43, 44, 45, 46, 47, 58, 61, 63].getD i9_192.toNat 0)) (i9_192 + 1)
 else
 bif (!p7_139) then
 some false
 else
 rText_j1 n a0 a1 i5_2 k_l1
def rText_l8 (n : Nat) (a0 : UInt8) (a1 : List UInt8) (i5_2 : Int) (k_l1 : Int → Option (Bool)) : Nat → Int → Option (Bool)
 | 0, _ => none
 | fu_l8 + 1, i9_193 =>
 bif (decide (i9_193 < (([32, 39, 40, 41, 43, 44, 45, 46, 47, 58, 61, 63].length : Nat) : Int))) then
 gd (okI .i64 (i9_193 + 1)) <|
 (rText_l8 n a0 a1 i5_2 k_l1 fu_l8) (i9_193 + 1)
 else
 rText_j1 n a0 a1 i5_2 k_l1
def rText_l9 (n : Nat) (a0 : UInt8) (a1 : List UInt8) (i5_2 : Int) (k_l1 : Int → Option (Bool)) : Nat → Bool → Int → Option (Bool)
 | 0, _, _ => none
 | fu_l9 + 1, p7_140, i9_194 =>
 bif (decide (i9_194 < (([32, 39, 40, 41, 43, 44, 45, 46, 47, 58, 61, 63].length : Nat) : Int))) then
 bif p7_140 then
 gd (okI .i64 (i9_194 + 1)) <|
 (rText_l9 n a0 a1 i5_2 k_l1 fu_l9) true (i9_194 + 1)
 else
 gd (0 ≤ i9_194) <|
 gd (i9_194 < (([32, 39, 40, 41, 43, 44, 45, 46, 47, 58, 61, 63].length : Nat) : Int)) <|
 gd (okI .i64 (i9_194 + 1)) <|
 (rText_l9 n a0 a1 i5_2 k_l1 fu_l9) ((a1.getD i5_2.toNat 0) == ([32, 39, 40, 41, 43, 44, 45, 46, 47, 58, 61, 63].getD i9_194.toNat 0)) (i9_194 + 1)
 else
 bif (!p7_140) then
 some false
 else
 rText_j1 n a0 a1 i5_2 k_l1
def rText_l10 (n : Nat) (a0 : UInt8) (a1 : List UInt8) (i5_2 : Int) (k_l1 : Int → Option (Bool)) : Nat → Bool → Int → Option (Bool)
 | 0, _, _ => none
 | fu_l10 + 1, p7_141, i9_195 =>
 bif (decide (i9_195 < (([32, 39, 40, 41, 43, 44, 45, 46, 47, 58, 61, 63].length : Nat) : Int))) then
 bif p7_141 then
 gd (okI .i64 (i9_195 + 1)) <|
 (rText_l10 n a0 a1 i5_2 k_l1 fu_l10) true (i9_195 + 1)
 else
 gd (0 ≤ i9_195) <|
 gd (i9_195 < (([32, 39, 40, 41, 43, 44, 45, 46, 47, 58, 61, 63].length : Nat) : Int)) <|
 gd (okI .i64 (i9_195 + 1)) <|
 (rText_l10 n a0 a1 i5_2 k_l1 fu_l10) ((a1.getD i5_2.toNat 0) == ([32, 39, 40, 41, 43, 44, 45, 46, 47, 58, 61, 63].getD i9_195.toNat 0)) (i9_195 + 1)
 else
 bif (!p7_141) then
 some false
 else
 rText_j1 n a0 a1 i5_2 k_l1
def rText_l11 (n : Nat) (a0 : UInt8) (a1 : List UInt8) (i5_2 : Int) (k_l1 : Int → Option (Bool)) : Nat → Bool → Int → Option (Bool)
 | 0, _, _ => none
 | fu_l11 + 1, p7_142, i9_196 =>
 bif (decide (i9_196 < (([32, 39, 40, 41, 43, 44, 45, 46, 47, 58, 61, 63].length : Nat) : Int))) then
 bif p7_142 then
 gd (okI .i64 (i9_196 + 1)) <|
 (rText_l11 n a0 a1 i5_2 k_l1 fu_l11) true (i9_196 + 1)
 else
 gd (0 ≤ i9_196) <|
 gd (i9_196 < (([32, 39, 40, 41, 43, 44, 45, 46, 47, 58, 61, 63].length : Nat) : Int)) <|
 gd (okI .i64 (i9_196 + 1)) <|
 (rText_l11 n a0 a1 i5_2 k_l1 fu_l11) ((a1.getD i5_2.toNat 0) == ([32, 39, 40, 41, 43, 44, 45, 46, 47, 58, 61, 63].getD i9_196.toNat 0)) (i9_196 + 1)
 else
 bif (!p7_142) then
 some false
 else
 rText_j1 n a0 a1 i5_2 k_l1
def rText_l12 (n : Nat) (a0 : UInt8) (a1 : List UInt8) (i5_2 : Int) (k_l1 : Int → Option (Bool)) : Nat → Bool → Int → Option (Bool)
 | 0, _, _ => none
 | fu_l12 + 1, p7_143, i9_197 =>
 bif (decide (i9_197 < (([32, 39, 40, 41, 43, 44, 45, 46, 47, 58, 61, 63].length : Nat) : Int))) then
 bif p7_143 then
 gd (okI .i64 (i9_197 + 1)) <|
 (rText_l12 n a0 a1 i5_2 k_l1 fu_l12) true (i9_197 + 1)
 else
 gd (0 ≤ i9_197) <|
 gd (i9_197 < (([32, 39, 40, 41, 43, 44, 45, 46, 47, 58, 61, 63].length : Nat) : Int)) <|
 gd (okI .i64 (i9_197 + 1)) <|
 (rText_l12 n a0 a1 i5_2 k_l1 fu_l12) ((a1.getD i5_2.toNat 0) == ([32, 39, 40, 41, 43, 44, 45, 46, 47, 58, 61, 63].getD i9_197.toNat 0)) (i9_197 + 1)
 else
 bif (!p7_143) then
 some false
 else
 rText_j1 n a0 a1 i5_2 k_l1
def rText_l1 (n : Nat) (a0 : UInt8) (a1 : List UInt8) : Nat → Int → Option (Bool)
 | 0, _ => none
 | fu_l1 + 1, i5_2 =>
 bif (decide (i5_2 < ((a1.length : Nat) : Int))) then
 gd (0 ≤ i5_2) <|
 gd (i5_2 < ((a1.length : Nat) : Int)) <|
 bif (decide ((128 : UInt8) ≤ (a1.getD i5_2.toNat 0))) then
 some false
 else
 bif (a0 == 19) then
 bif (decide ((97 : UInt8) ≤ (a1.getD i5_2.toNat 0))) then
 bif (decide ((a1.getD i5_2.toNat 0) ≤ (122 : UInt8))) then
 rText_l2 n a0 a1 i5_2 (rText_l1 n a0 a1 fu_l1) n 0
 else
 bif (decide ((65 : UInt8) ≤ (a1.getD i5_2.toNat 0))) then
 bif (decide ((a1.getD i5_2.toNat 0) ≤ (90 : UInt8))) then
 rText_l3 n a0 a1 i5_2 (rText_l1 n a0 a1 fu_l1) n 0
 else
 bif (decide ((48 : UInt8) ≤ (a1.getD i5_2.toNat 0))) then
 rText_l4 n a0 a1 i5_2 (rText_l1 n a0 a1 fu_l1) n (decide ((a1.getD i5_2.toNat 0) ≤ (57 : UInt8))) 0
 else
 rText_l5 n a0 a1 i5_2 (rText_l1 n a0 a1 fu_l1) n false 0
 else
 bif (decide ((48 : UInt8) ≤ (a1.getD i5_2.toNat 0))) then
 rText_l6 n a0 a1 i5_2 (rText_l1 n a0 a1 fu_l1) n (decide ((a1.getD i5_2.toNat 0) ≤ (57 : UInt8))) 0
 else
 rText_l7 n a0 a1 i5_2 (rText_l1 n a0 a1 fu_l1) n false 0
 else
 bif (decide ((65 : UInt8) ≤ (a1.getD i5_2.toNat 0))) then
 bif (decide ((a1.getD i5_2.toNat 0) ≤ (90 : UInt8))) then
 rText_l8 n a0 a1 i5_2 (rText_l1 n a0 a1 fu_l1) n 0
 else
 bif (decide ((48 : UInt8) ≤ (a1.getD i5_2.toNat 0))) then
 rText_l9 n a0 a1 i5_2 (rText_l1 n a0 a1 fu_l1) n (decide ((a1.getD i5_2.toNat 0) ≤ (57 : UInt8))) 0
 else
 rText_l10 n a0 a1 i5_2 (rText_l1 n a0 a1 fu_l1) n false 0
 else
 bif (decide ((48 : UInt8) ≤ (a1.getD i5_2.toNat 0))) then
 rText_l11 n a0 a1 i5_2 (rText_l1 n a0 a1 fu_l1) n (decide ((a1.getD i5_2.toNat 0) ≤ (57 : UInt8))) 0
 else
 rText_l12 n a0 a1 i5_2 (rText_l1 n a0 a1 fu_l1) n false 0
 else
 rText_j1 n a0 a1 i5_2 (rText_l1 n a0 a1 fu_l1)
 else
 some true
def rText (n : Nat) (a0 : UInt8) (a1 : List UInt8) : Option (Bool) :=
 bif (a0 == 12) then
  (rPoints n a1).bind fun r13 =>
  some r13
 else
  rText_l1 n a0 a1 n 0
def lTexts (n : Nat) (a0 : UInt8) (a1 : List UInt8) : Option (Bool) :=
 (pup n).bind fun r8 =>
 bif (decide ((2000 : Int) < ((a1.length : Nat) : Int))) then
  some r8
 else
  (pText n a0 a1).bind fun r15 =>
  bif (a0 != 12) then
   bif (a0 != 19) then
    bif (a0 != 22) then
     bif r8 then
      gd (¬((r15 : Option Int) = none ∧ ((some 1) : Option Int) = none)) <|
      some (r15 == (some 1))
     else
      some false
    else
     (rText n a0 a1).bind fun r34 =>
     bif r8 then
      bif r34 then
       bif ((r15).isNone) then
        some true
       else
        bif (!r34) then
         gd (¬((r15 : Option Int) = none ∧ ((some 2) : Option Int) = none)) <|
         some (r15 == (some 2))
        else
         some false
      else
       bif (!r34) then
        gd (¬((r15 : Option Int) = none ∧ ((some 2) : Option Int) = none)) <|
        some (r15 == (some 2))
       else
        some false
     else
      some false
   else
    (rText n a0 a1).bind fun r34 =>
    bif r8 then
     bif r34 then
      bif ((r15).isNone) then
       some true
      else
       bif (!r34) then
        gd (¬((r15 : Option Int) = none ∧ ((some 2) : Option Int) = none)) <|
        some (r15 == (some 2))
       else
        some false
     else
      bif (!r34) then
       gd (¬((r15 : Option Int) = none ∧ ((some 2) : Option Int) = none)) <|
       some (r15 == (some 2))
      else
       some false
    else
     some false
  else
   (rText n a0 a1).bind fun r34 =>
   bif r8 then
    bif r34 then
     bif ((r15).isNone) then
      some true
     else
      bif (!r34) then
       gd (¬((r15 : Option Int) = none ∧ ((some 2) : Option Int) = none)) <|
       some (r15 == (some 2))
      else
       some false
    else
     bif (!r34) then
      gd (¬((r15 : Option Int) = none ∧ ((some 2) : Option Int) = none)) <|
      some (r15 == (some 2))
     else
      some false
   else
    some false
def pText_j1_E (p5_2 : Bool) : S := ⟨[(5, kB p5_2)], [], []⟩
abbrev pText_j1_P (n : Nat) (r : Option Int) : S → Prop := fun s => ∃ (p5_2 : Bool), s = pText_j1_E p5_2 ∧ pText_j1 n p5_2 = some r
def pText_R (r : Option Int) : S := ⟨[(4, kE 31 r)], [], []⟩
def pText_ct (n : Nat) (r : Option Int) : Ct := ctc rU8.rd fun _ l0 => ctc (rB 5).rd fun _ l1 => ct0 fun H => ([pText n l0 l1 = some r], shA H.length (kE 31 r), shH H.length [])
theorem pText_ok (n : Nat) (r : Option Int) : FnOk Try.prog Tr 30 (pText_ct n r) := by
 refine fnok Try.func30 ?_
 refine HO_c rU8 fun l0 _ => HO_c (rB 5) fun l1 _ => HO_0 tabO_tb (pText_R r) [.tmp 4] [] 26 Try.func30 fun w hG h => ?_
 unfold pText at h
 have hT := tabO_tb
 refine Vrs hT [0] ⟨[(0, kU l0), (1, kH 0)], [], [ob 5 l1]⟩ ?_
 refine Vrs hT [0] ⟨[(0, kU l0), (1, kH 0)], [], [ob 5 l1]⟩ ?_
 refine W_join (pText_j1_P n r) ?_ ?_
 ·rintro _ ⟨p5_2, rfl, h⟩
  unfold pText_j1 at h
  refine W_seq ?_
  refine Vrs hT [] ⟨[(24, kB (!p5_2))], [], []⟩ ?_
  refine Vi ((!p5_2)) (fun g1 => ?_) (fun g1 => ?_)
  ·replace h := bif_t h g1
   refine Vrs hT [] ⟨[(4, kE 31 (some 2))], [], []⟩ ?_
   refine Vc [] [] (pText_R (some 2)) (W_ret ?_)
   exact ⟨.inl rfl, by cases h; rfl⟩
  ·replace h := bif_f h g1
   refine W_skip ?_
   refine Vrs hT [] ⟨[(4, .c (.s (.v .nilIface)))], [], []⟩ ?_
   refine Vc [.er 4 31 .i64] [] (pText_R none) (W_ret ?_)
   exact ⟨.inl rfl, by cases h; rfl⟩
 ·refine W_seq ?_
  refine Vr hT [0] ⟨[(1, kH 0), (6, kU l0)], [], [ob 5 l1]⟩ ?_
  refine W_block ?_
  refine Vrs hT [0] ⟨[(1, kH 0), (6, kU l0), (8, kB (l0 == 12))], [], [ob 5 l1]⟩ ?_
  refine Vi ((l0 == 12)) (fun g5 => ?_) (fun g5 => ?_)
  ·replace h := bif_t h g5
   obtain ⟨g2, h⟩ := gd_some h
   refine Vg hT (fT 2 pts_h fN) [] [] [] (pText_j1_E (ptsF l1)) (aP g2 aN) ?_
   exact ⟨_, rfl, h⟩
  ·replace h := bif_f h g5
   refine Vrs hT [0] ⟨[(1, kH 0), (6, kU l0), (13, kB (l0 == 19))], [], [ob 5 l1]⟩ ?_
   refine Vi ((l0 == 19)) (fun g4 => ?_) (fun g4 => ?_)
   ·replace h := bif_t h g4
    refine Vg hT (fT 1 cf_h fN) [] [] [] (pText_j1_E (!((l1).any prtN))) aN ?_
    exact ⟨_, rfl, h⟩
   ·replace h := bif_f h g4
    refine Vrs hT [0] ⟨[(1, kH 0), (18, kB (l0 == 22))], [], [ob 5 l1]⟩ ?_
    refine Vi ((l0 == 22)) (fun g3 => ?_) (fun g3 => ?_)
    ·replace h := bif_t h g3
     refine Vg hT (fT 1 cf_h fN) [] [] [] (pText_j1_E (!((l1).any hiB))) aN ?_
     exact ⟨_, rfl, h⟩
    ·replace h := bif_f h g3
     refine Vrs hT [] ⟨[(4, kE 31 (some 1))], [], []⟩ ?_
     refine Vc [] [] (pText_R (some 1)) (W_ret ?_)
     exact ⟨.inl rfl, by cases h; rfl⟩
def rlater_R (r : Bool) : S := ⟨[(2, kB r)], [], []⟩
def rlater_ct (n : Nat) (r : Bool) : Ct := ctc rU8.rd fun _ l0 => ct0 fun H => ([rlater n l0 = some r], shA H.length (kB r), shH H.length [])
theorem rlater_ok (n : Nat) (r : Bool) : FnOk Try.prog Tr 80 (rlater_ct n r) := by
 refine fnok Try.func80 ?_
 refine HO_c rU8 fun l0 _ => HO_0 tabO_tb (rlater_R r) [.tmp 2] [] 9 Try.func80 fun w hG h => ?_
 unfold rlater at h
 have hT := tabO_tb
 refine Vrs hT [] ⟨[(0, kU l0)], [], []⟩ ?_
 refine W_seq ?_
 rcases Bool.eq_false_or_eq_true (decide ((128 : UInt8) ≤ l0)) with g1 | g1
 ·replace h := bif_t h g1
  refine Vg hT fN [(2, true)] [] [] ⟨[(2, kB (decide (l0 < (192 : UInt8))))], [], []⟩ (aP g1 aN) ?_
  refine Vc [] [] (rlater_R (decide (l0 < (192 : UInt8)))) (W_ret ?_)
  exact ⟨.inl rfl, by cases h; rfl⟩
 ·replace h := bif_f h g1
  refine Vg hT fN [(2, false)] [] [] ⟨[(2, kB false)], [], []⟩ (aP g1 aN) ?_
  refine Vc [] [] (rlater_R false) (W_ret ?_)
  exact ⟨.inl rfl, by cases h; rfl⟩
def rPoints_l2_E (a0 : List UInt8) (i3_2 : Int) (i5_8 : Int) (i8_16 : Int) : S := ⟨[(0, kH 0), (3, kI i3_2), (5, kI i5_8), (8, kI i8_16)], [], [ob 5 a0]⟩
abbrev rPoints_l2_P (n : Nat) (a0 : List UInt8) (i3_2 : Int) (i5_8 : Int) (k_l1 : Int → Option (Bool)) (r : Bool) (fu : Nat) : S → Prop := fun s => ∃ (i8_16 : Int), s = rPoints_l2_E a0 i3_2 i5_8 i8_16 ∧ rPoints_l2 n a0 i3_2 i5_8 k_l1 fu i8_16 = some r
def rPoints_l3_E (a0 : List UInt8) (i3_2 : Int) (i5_8 : Int) (i8_17 : Int) : S := ⟨[(0, kH 0), (3, kI i3_2), (5, kI i5_8), (8, kI i8_17)], [], [ob 5 a0]⟩
abbrev rPoints_l3_P (n : Nat) (a0 : List UInt8) (i3_2 : Int) (i5_8 : Int) (k_l1 : Int → Option (Bool)) (r : Bool) (fu : Nat) : S → Prop := fun s => ∃ (i8_17 : Int), s = rPoints_l3_E a0 i3_2 i5_8 i8_17 ∧ rPoints_l3 n a0 i3_2 i5_8 k_l1 fu i8_17 = some r
def rPoints_j5_E (a0 : List UInt8) (i3_2 : Int) (i5_8 : Int) (i6_17 : Int) (i7_17 : Int) : S := ⟨[(0, kH 0), (3, kI i3_2), (5, kI i5_8), (6, kI i6_17), (7, kI i7_17)], [], [ob 5 a0]⟩
abbrev rPoints_j5_P (n : Nat) (a0 : List UInt8) (i3_2 : Int) (i5_8 : Int) (i6_17 : Int) (k_l1 : Int → Option (Bool)) (r : Bool) : S → Prop := fun s => ∃ (i7_17 : Int), s = rPoints_j5_E a0 i3_2 i5_8 i6_17 i7_17 ∧ rPoints_j5 n a0 i3_2 i5_8 i6_17 k_l1 i7_17 = some r
def rPoints_j4_E (a0 : List UInt8) (i3_2 : Int) (i5_8 : Int) (i7_16 : Int) (i6_17 : Int) : S := ⟨[(0, kH 0), (3, kI i3_2), (4, kI (((a0.getD i3_2.toNat 0).toNat : Nat) : Int)), (5, kI i5_8), (6, kI i6_17), (7, kI i7_16)], [], [ob 5 a0]⟩
abbrev rPoints_j4_P (n : Nat) (a0 : List UInt8) (i3_2 : Int) (i5_8 : Int) (i7_16 : Int) (k_l1 : Int → Option (Bool)) (r : Bool) : S → Prop := fun s => ∃ (i6_17 : Int), s = rPoints_j4_E a0 i3_2 i5_8 i7_16 i6_17 ∧ rPoints_j4 n a0 i3_2 i5_8 i7_16 k_l1 i6_17 = some r
def rPoints_j3_E (a0 : List UInt8) (i3_2 : Int) (i5_8 : Int) (i6_16 : Int) (i7_16 : Int) : S := ⟨[(0, kH 0), (3, kI i3_2), (4, kI (((a0.getD i3_2.toNat 0).toNat : Nat) : Int)), (5, kI i5_8), (6, kI i6_16), (7, kI i7_16)], [], [ob 5 a0]⟩
abbrev rPoints_j3_P (n : Nat) (a0 : List UInt8) (i3_2 : Int) (i5_8 : Int) (i6_16 : Int) (k_l1 : Int → Option (Bool)) (r : Bool) : S → Prop := fun s => ∃ (i7_16 : Int), s = rPoints_j3_E a0 i3_2 i5_8 i6_16 i7_16 ∧ rPoints_j3 n a0 i3_2 i5_8 i6_16 k_l1 i7_16 = some r
def rPoints_j2_E (a0 : List UInt8) (i3_2 : Int) (i5_8 : Int) (i6_16 : Int) : S := ⟨[(0, kH 0), (3, kI i3_2), (4, kI (((a0.getD i3_2.toNat 0).toNat : Nat) : Int)), (5, kI i5_8), (6, kI i6_16), (7, kI 191)], [], [ob 5 a0]⟩
abbrev rPoints_j2_P (n : Nat) (a0 : List UInt8) (i3_2 : Int) (i5_8 : Int) (k_l1 : Int → Option (Bool)) (r : Bool) : S → Prop := fun s => ∃ (i6_16 : Int), s = rPoints_j2_E a0 i3_2 i5_8 i6_16 ∧ rPoints_j2 n a0 i3_2 i5_8 k_l1 i6_16 = some r
def rPoints_j1_E (a0 : List UInt8) (i3_2 : Int) (i5_8 : Int) : S := ⟨[(0, kH 0), (3, kI i3_2), (4, kI (((a0.getD i3_2.toNat 0).toNat : Nat) : Int)), (5, kI i5_8), (6, kI 128), (7, kI 191)], [], [ob 5 a0]⟩
abbrev rPoints_j1_P (n : Nat) (a0 : List UInt8) (i3_2 : Int) (k_l1 : Int → Option (Bool)) (r : Bool) : S → Prop := fun s => ∃ (i5_8 : Int), s = rPoints_j1_E a0 i3_2 i5_8 ∧ rPoints_j1 n a0 i3_2 k_l1 i5_8 = some r
def rPoints_l1_E (a0 : List UInt8) (i3_2 : Int) : S := ⟨[(0, kH 0), (3, kI i3_2)], [], [ob 5 a0]⟩
abbrev rPoints_l1_P (n : Nat) (a0 : List UInt8) (r : Bool) (fu : Nat) : S → Prop := fun s => ∃ (i3_2 : Int), s = rPoints_l1_E a0 i3_2 ∧ rPoints_l1 n a0 fu i3_2 = some r
def rPoints_R (r : Bool) : S := ⟨[(2, kB r)], [], []⟩
def rPoints_ct (n : Nat) (r : Bool) : Ct := ctc (rB 5).rd fun _ l0 => ct0 fun H => ([rPoints n l0 = some r], shA H.length (kB r), shH H.length [])
theorem rPoints_ok (n : Nat) (r : Bool) : FnOk Try.prog Tr 63 (rPoints_ct n r) := by
 refine fnok Try.func63 ?_
 refine HO_c (rB 5) fun l0 _ => HO_0 tabO_tb (rPoints_R r) [.tmp 2] [] 97 Try.func63 fun w hG h => ?_
 unfold rPoints at h
 have hT := tabO_tb
 refine Vrs hT [0] ⟨[(0, kH 0)], [], [ob 5 l0]⟩ ?_
 refine Vrs hT [0] ⟨[(0, kH 0), (3, kI 0)], [], [ob 5 l0]⟩ ?_
 refine W_seq ?_
 refine W_block ?_
 refine Vc [] [0] (rPoints_l1_E l0 0) (W_lp ((rPoints_l1_P n l0 r)) n ⟨_, rfl, h⟩ ?_)
 rintro fu_l1 _ ⟨i3_2, rfl, h⟩
 cases fu_l1 with
 | zero => cases h
 | succ fu_l1 =>
  refine ⟨fu_l1, rfl, ?_⟩
  rw [rPoints_l1] at h
  refine W_seq ?_
  refine Vrs hT [0] ⟨[(0, kH 0), (3, kI i3_2), (13, kB (decide (i3_2 < ((l0.length : Nat) : Int))))], [], [ob 5 l0]⟩ ?_
  refine Vi ((decide (i3_2 < ((l0.length : Nat) : Int)))) (fun g51 => ?_) (fun g51 => ?_)
  ·replace h := bif_t h g51
   refine W_skip ?_
   refine W_block ?_
   obtain ⟨g1, g2, h⟩ := gd2 h
   refine Vgs hT fN [] [] [0] ⟨[(0, kH 0), (3, kI i3_2), (4, kI (((l0.getD i3_2.toNat 0).toNat : Nat) : Int))], [], [ob 5 l0]⟩ (aP g1 (aP g2 aN)) ?_
   refine Vrs hT [0] ⟨[(0, kH 0), (3, kI i3_2), (4, kI (((l0.getD i3_2.toNat 0).toNat : Nat) : Int))], [], [ob 5 l0]⟩ ?_
   refine Vrs hT [0] ⟨[(0, kH 0), (3, kI i3_2), (4, kI (((l0.getD i3_2.toNat 0).toNat : Nat) : Int)), (6, kI 128)], [], [ob 5 l0]⟩ ?_
   refine Vrs hT [0] ⟨[(0, kH 0), (3, kI i3_2), (4, kI (((l0.getD i3_2.toNat 0).toNat : Nat) : Int)), (6, kI 128), (7, kI 191)], [], [ob 5 l0]⟩ ?_
   refine W_join (rPoints_j1_P n l0 i3_2 (rPoints_l1 n l0 fu_l1) r) ?_ ?_
   ·rintro _ ⟨i5_8, rfl, h⟩
    unfold rPoints_j1 at h
    refine W_join (rPoints_j2_P n l0 i3_2 i5_8 (rPoints_l1 n l0 fu_l1) r) ?_ ?_
    ·rintro _ ⟨i6_16, rfl, h⟩
     unfold rPoints_j2 at h
     refine W_join (rPoints_j3_P n l0 i3_2 i5_8 i6_16 (rPoints_l1 n l0 fu_l1) r) ?_ ?_
     ·rintro _ ⟨i7_16, rfl, h⟩
      unfold rPoints_j3 at h
      refine W_join (rPoints_j4_P n l0 i3_2 i5_8 i7_16 (rPoints_l1 n l0 fu_l1) r) ?_ ?_
      ·rintro _ ⟨i6_17, rfl, h⟩
       unfold rPoints_j4 at h
       refine W_join (rPoints_j5_P n l0 i3_2 i5_8 i6_17 (rPoints_l1 n l0 fu_l1) r) ?_ ?_
       ·rintro _ ⟨i7_17, rfl, h⟩
        unfold rPoints_j5 at h
        refine W_seq ?_
        obtain ⟨g3, h⟩ := gd_some h
        refine Vgs hT fN [] [] [0] ⟨[(0, kH 0), (3, kI i3_2), (5, kI i5_8), (6, kI i6_17), (7, kI i7_17), (56, kB (decide (((l0.length : Nat) : Int) ≤ (i3_2 + i5_8))))], [], [ob 5 l0]⟩ (aP g3 aN) ?_
        refine Vi ((decide (((l0.length : Nat) : Int) ≤ (i3_2 + i5_8)))) (fun g31 => ?_) (fun g31 => ?_)
        ·replace h := bif_t h g31
         refine Vrs hT [] ⟨[(2, kB false)], [], []⟩ ?_
         refine Vc [] [] (rPoints_R false) (W_ret ?_)
         exact ⟨.inl rfl, by cases h; rfl⟩
        ·replace h := bif_f h g31
         refine Vc [] [0] ⟨[(0, kH 0), (3, kI i3_2), (5, kI i5_8), (6, kI i6_17), (7, kI i7_17)], [], [ob 5 l0]⟩ (W_skip ?_)
         refine W_seq ?_
         refine W_seq ?_
         rcases Bool.eq_false_or_eq_true (decide ((0 : Int) < i5_8)) with g4 | g4
         ·replace h := bif_t h g4
          obtain ⟨g5, g6, g7, h⟩ := gd3 h
          rcases Bool.eq_false_or_eq_true (decide ((((l0.getD ((i3_2 + 1).toNat) 0).toNat : Nat) : Int) < i6_17)) with g8 | g8
          ·replace h := bif_t h g8
           refine Vg hT fN [(2, true), (11, true)] [] [0] ⟨[(0, kH 0), (3, kI i3_2), (5, kI i5_8), (78, kB true)], [], [ob 5 l0]⟩ (aP g4 (aP g5 (aP g6 (aP g7 (aP g8 aN))))) ?_
           refine Vi (true) (fun _ => ?_) (fun hb => by cases hb)
           refine Vrs hT [] ⟨[(2, kB false)], [], []⟩ ?_
           refine Vc [] [] (rPoints_R false) (W_ret ?_)
           exact ⟨.inl rfl, by cases h; rfl⟩
          ·replace h := bif_f h g8
           obtain ⟨g9, g10, g11, h⟩ := gd3 h
           refine Vg hT fN [(2, true), (11, false)] [] [0] ⟨[(0, kH 0), (3, kI i3_2), (5, kI i5_8), (78, kB (decide (i7_17 < (((l0.getD ((i3_2 + 1).toNat) 0).toNat : Nat) : Int))))], [], [ob 5 l0]⟩ (aP g4 (aP g5 (aP g6 (aP g7 (aP g8 (aP g9 (aP g10 (aP g11 aN)))))))) ?_
           refine Vi ((decide (i7_17 < (((l0.getD ((i3_2 + 1).toNat) 0).toNat : Nat) : Int)))) (fun g21 => ?_) (fun g21 => ?_)
           ·replace h := bif_t h g21
            refine Vrs hT [] ⟨[(2, kB false)], [], []⟩ ?_
            refine Vc [] [] (rPoints_R false) (W_ret ?_)
            exact ⟨.inl rfl, by cases h; rfl⟩
           ·replace h := bif_f h g21
            refine W_skip ?_
            refine W_seq ?_
            refine Vrs hT [0] ⟨[(0, kH 0), (3, kI i3_2), (5, kI i5_8), (8, kI 2)], [], [ob 5 l0]⟩ ?_
            refine W_block ?_
            refine Vc [] [0] (rPoints_l2_E l0 i3_2 i5_8 2) (W_lp ((rPoints_l2_P n l0 i3_2 i5_8 (rPoints_l1 n l0 fu_l1) r)) n ⟨_, rfl, h⟩ ?_)
            rintro fu_l2 _ ⟨i8_16, rfl, h⟩
            cases fu_l2 with
            | zero => cases h
            | succ fu_l2 =>
             refine ⟨fu_l2, rfl, ?_⟩
             rw [rPoints_l2] at h
             refine W_seq ?_
             refine Vrs hT [0] ⟨[(0, kH 0), (3, kI i3_2), (5, kI i5_8), (8, kI i8_16), (81, kB (decide (i8_16 ≤ i5_8)))], [], [ob 5 l0]⟩ ?_
             refine Vi ((decide (i8_16 ≤ i5_8))) (fun g20 => ?_) (fun g20 => ?_)
             ·replace h := bif_t h g20
              refine W_skip ?_
              refine W_seq ?_
              refine W_block ?_
              obtain ⟨g12, g13, g14, h⟩ := gd3 h
              obtain ⟨r90_20, g15, h⟩ := bind_some' h
              refine Vgs hT (fT 6 (rlater_ok n r90_20) fN) [] [] [0] ⟨[(0, kH 0), (3, kI i3_2), (5, kI i5_8), (8, kI i8_16), (9, kB r90_20)], [], [ob 5 l0]⟩ (aP g12 (aP g13 (aP g14 (aP g15 aN)))) ?_
              refine Vrs hT [0] ⟨[(0, kH 0), (3, kI i3_2), (5, kI i5_8), (8, kI i8_16), (92, kB (!r90_20))], [], [ob 5 l0]⟩ ?_
              refine Vi ((!r90_20)) (fun g17 => ?_) (fun g17 => ?_)
              ·replace h := bif_t h g17
               refine Vrs hT [] ⟨[(2, kB false)], [], []⟩ ?_
               refine Vc [] [] (rPoints_R false) (W_ret ?_)
               exact ⟨.inl rfl, by cases h; rfl⟩
              ·replace h := bif_f h g17
               refine W_skip ?_
               obtain ⟨g16, h⟩ := gd_some h
               refine Vg hT fN [] [] [0] (rPoints_l2_E l0 i3_2 i5_8 (i8_16 + 1)) (aP g16 aN) ?_
               exact ⟨_, rfl, h⟩
             ·replace h := bif_f h g20
              refine Vc [] [0] ⟨[(0, kH 0), (3, kI i3_2), (5, kI i5_8)], [], [ob 5 l0]⟩ (W_exit ?_)
              obtain ⟨g18, g19, h⟩ := gd2 h
              refine Vg hT fN [] [] [0] (rPoints_l1_E l0 ((i3_2 + 1) + i5_8)) (aP g18 (aP g19 aN)) ?_
              exact ⟨_, rfl, h⟩
         ·replace h := bif_f h g4
          refine Vg hT fN [(2, false)] [] [0] ⟨[(0, kH 0), (3, kI i3_2), (5, kI i5_8), (78, kB false)], [], [ob 5 l0]⟩ (aP g4 aN) ?_
          refine Vi (false) (fun hb => by cases hb) (fun _ => ?_)
          refine W_skip ?_
          refine W_seq ?_
          refine Vrs hT [0] ⟨[(0, kH 0), (3, kI i3_2), (5, kI i5_8), (8, kI 2)], [], [ob 5 l0]⟩ ?_
          refine W_block ?_
          refine Vc [] [0] (rPoints_l3_E l0 i3_2 i5_8 2) (W_lp ((rPoints_l3_P n l0 i3_2 i5_8 (rPoints_l1 n l0 fu_l1) r)) n ⟨_, rfl, h⟩ ?_)
          rintro fu_l3 _ ⟨i8_17, rfl, h⟩
          cases fu_l3 with
          | zero => cases h
          | succ fu_l3 =>
           refine ⟨fu_l3, rfl, ?_⟩
           rw [rPoints_l3] at h
           refine W_seq ?_
           refine Vrs hT [0] ⟨[(0, kH 0), (3, kI i3_2), (5, kI i5_8), (8, kI i8_17), (81, kB (decide (i8_17 ≤ i5_8)))], [], [ob 5 l0]⟩ ?_
           refine Vi ((decide (i8_17 ≤ i5_8))) (fun g30 => ?_) (fun g30 => ?_)
           ·replace h := bif_t h g30
            refine W_skip ?_
            refine W_seq ?_
            refine W_block ?_
            obtain ⟨g22, g23, g24, h⟩ := gd3 h
            obtain ⟨r90_21, g25, h⟩ := bind_some' h
            refine Vgs hT (fT 6 (rlater_ok n r90_21) fN) [] [] [0] ⟨[(0, kH 0), (3, kI i3_2), (5, kI i5_8), (8, kI i8_17), (9, kB r90_21)], [], [ob 5 l0]⟩ (aP g22 (aP g23 (aP g24 (aP g25 aN)))) ?_
            refine Vrs hT [0] ⟨[(0, kH 0), (3, kI i3_2), (5, kI i5_8), (8, kI i8_17), (92, kB (!r90_21))], [], [ob 5 l0]⟩ ?_
            refine Vi ((!r90_21)) (fun g27 => ?_) (fun g27 => ?_)
            ·replace h := bif_t h g27
             refine Vrs hT [] ⟨[(2, kB false)], [], []⟩ ?_
             refine Vc [] [] (rPoints_R false) (W_ret ?_)
             exact ⟨.inl rfl, by cases h; rfl⟩
            ·replace h := bif_f h g27
             refine W_skip ?_
             obtain ⟨g26, h⟩ := gd_some h
             refine Vg hT fN [] [] [0] (rPoints_l3_E l0 i3_2 i5_8 (i8_17 + 1)) (aP g26 aN) ?_
             exact ⟨_, rfl, h⟩
           ·replace h := bif_f h g30
            refine Vc [] [0] ⟨[(0, kH 0), (3, kI i3_2), (5, kI i5_8)], [], [ob 5 l0]⟩ (W_exit ?_)
            obtain ⟨g28, g29, h⟩ := gd2 h
            refine Vg hT fN [] [] [0] (rPoints_l1_E l0 ((i3_2 + 1) + i5_8)) (aP g28 (aP g29 aN)) ?_
            exact ⟨_, rfl, h⟩
       ·refine W_seq ?_
        refine Vr hT [0] ⟨[(0, kH 0), (3, kI i3_2), (5, kI i5_8), (6, kI i6_17), (7, kI i7_16), (50, kB ((((l0.getD i3_2.toNat 0).toNat : Nat) : Int) == 244))], [], [ob 5 l0]⟩ ?_
        refine Vi (((((l0.getD i3_2.toNat 0).toNat : Nat) : Int) == 244)) (fun g32 => ?_) (fun g32 => ?_)
        ·replace h := bif_t h g32
         refine Vr hT [0] (rPoints_j5_E l0 i3_2 i5_8 i6_17 143) ?_
         exact ⟨_, rfl, h⟩
        ·replace h := bif_f h g32
         refine Vc [] [0] (rPoints_j5_E l0 i3_2 i5_8 i6_17 i7_16) (W_skip ?_)
         exact ⟨_, rfl, h⟩
      ·refine W_seq ?_
       refine Vr hT [0] ⟨[(0, kH 0), (3, kI i3_2), (4, kI (((l0.getD i3_2.toNat 0).toNat : Nat) : Int)), (5, kI i5_8), (6, kI i6_16), (7, kI i7_16), (48, kB ((((l0.getD i3_2.toNat 0).toNat : Nat) : Int) == 240))], [], [ob 5 l0]⟩ ?_
       refine Vi (((((l0.getD i3_2.toNat 0).toNat : Nat) : Int) == 240)) (fun g33 => ?_) (fun g33 => ?_)
       ·replace h := bif_t h g33
        refine Vr hT [0] (rPoints_j4_E l0 i3_2 i5_8 i7_16 144) ?_
        exact ⟨_, rfl, h⟩
       ·replace h := bif_f h g33
        refine Vc [] [0] (rPoints_j4_E l0 i3_2 i5_8 i7_16 i6_16) (W_skip ?_)
        exact ⟨_, rfl, h⟩
     ·refine W_seq ?_
      refine Vr hT [0] ⟨[(0, kH 0), (3, kI i3_2), (4, kI (((l0.getD i3_2.toNat 0).toNat : Nat) : Int)), (5, kI i5_8), (6, kI i6_16), (7, kI 191), (46, kB ((((l0.getD i3_2.toNat 0).toNat : Nat) : Int) == 237))], [], [ob 5 l0]⟩ ?_
      refine Vi (((((l0.getD i3_2.toNat 0).toNat : Nat) : Int) == 237)) (fun g34 => ?_) (fun g34 => ?_)
      ·replace h := bif_t h g34
       refine Vr hT [0] (rPoints_j3_E l0 i3_2 i5_8 i6_16 159) ?_
       exact ⟨_, rfl, h⟩
      ·replace h := bif_f h g34
       refine Vc [] [0] (rPoints_j3_E l0 i3_2 i5_8 i6_16 191) (W_skip ?_)
       exact ⟨_, rfl, h⟩
    ·refine W_seq ?_
     refine Vr hT [0] ⟨[(0, kH 0), (3, kI i3_2), (4, kI (((l0.getD i3_2.toNat 0).toNat : Nat) : Int)), (5, kI i5_8), (6, kI 128), (7, kI 191), (44, kB ((((l0.getD i3_2.toNat 0).toNat : Nat) : Int) == 224))], [], [ob 5 l0]⟩ ?_
     refine Vi (((((l0.getD i3_2.toNat 0).toNat : Nat) : Int) == 224)) (fun g35 => ?_) (fun g35 => ?_)
     ·replace h := bif_t h g35
      refine Vr hT [0] (rPoints_j2_E l0 i3_2 i5_8 160) ?_
      exact ⟨_, rfl, h⟩
     ·replace h := bif_f h g35
      refine Vc [] [0] (rPoints_j2_E l0 i3_2 i5_8 128) (W_skip ?_)
      exact ⟨_, rfl, h⟩
   ·refine W_block ?_
    refine Vrs hT [0] ⟨[(0, kH 0), (3, kI i3_2), (4, kI (((l0.getD i3_2.toNat 0).toNat : Nat) : Int)), (6, kI 128), (7, kI 191), (19, kB (decide ((((l0.getD i3_2.toNat 0).toNat : Nat) : Int) < (128 : Int))))], [], [ob 5 l0]⟩ ?_
    refine Vi ((decide ((((l0.getD i3_2.toNat 0).toNat : Nat) : Int) < (128 : Int)))) (fun g50 => ?_) (fun g50 => ?_)
    ·replace h := bif_t h g50
     refine Vr hT [0] (rPoints_j1_E l0 i3_2 0) ?_
     exact ⟨_, rfl, h⟩
    ·replace h := bif_f h g50
     refine W_seq ?_
     rcases Bool.eq_false_or_eq_true (decide ((194 : Int) ≤ (((l0.getD i3_2.toNat 0).toNat : Nat) : Int))) with g36 | g36
     ·replace h := bif_t h g36
      refine Vg hT fN [(2, true)] [] [0] ⟨[(0, kH 0), (3, kI i3_2), (4, kI (((l0.getD i3_2.toNat 0).toNat : Nat) : Int)), (6, kI 128), (7, kI 191), (22, kB (decide ((((l0.getD i3_2.toNat 0).toNat : Nat) : Int) ≤ (223 : Int))))], [], [ob 5 l0]⟩ (aP g36 aN) ?_
      refine Vi ((decide ((((l0.getD i3_2.toNat 0).toNat : Nat) : Int) ≤ (223 : Int)))) (fun g43 => ?_) (fun g43 => ?_)
      ·replace h := bif_t h g43
       refine Vr hT [0] (rPoints_j1_E l0 i3_2 1) ?_
       exact ⟨_, rfl, h⟩
      ·replace h := bif_f h g43
       refine W_seq ?_
       rcases Bool.eq_false_or_eq_true (decide ((224 : Int) ≤ (((l0.getD i3_2.toNat 0).toNat : Nat) : Int))) with g37 | g37
       ·replace h := bif_t h g37
        refine Vg hT fN [(2, true)] [] [0] ⟨[(0, kH 0), (3, kI i3_2), (4, kI (((l0.getD i3_2.toNat 0).toNat : Nat) : Int)), (6, kI 128), (7, kI 191), (29, kB (decide ((((l0.getD i3_2.toNat 0).toNat : Nat) : Int) ≤ (239 : Int))))], [], [ob 5 l0]⟩ (aP g37 aN) ?_
        refine Vi ((decide ((((l0.getD i3_2.toNat 0).toNat : Nat) : Int) ≤ (239 : Int)))) (fun g40 => ?_) (fun g40 => ?_)
        ·replace h := bif_t h g40
         refine Vr hT [0] (rPoints_j1_E l0 i3_2 2) ?_
         exact ⟨_, rfl, h⟩
        ·replace h := bif_f h g40
         refine W_seq ?_
         rcases Bool.eq_false_or_eq_true (decide ((240 : Int) ≤ (((l0.getD i3_2.toNat 0).toNat : Nat) : Int))) with g38 | g38
         ·replace h := bif_t h g38
          refine Vg hT fN [(2, true)] [] [0] ⟨[(0, kH 0), (3, kI i3_2), (4, kI (((l0.getD i3_2.toNat 0).toNat : Nat) : Int)), (6, kI 128), (7, kI 191), (36, kB (decide ((((l0.getD i3_2.toNat 0).toNat : Nat) : Int) ≤ (244 : Int))))], [], [ob 5 l0]⟩ (aP g38 aN) ?_
          refine Vi ((decide ((((l0.getD i3_2.toNat 0).toNat : Nat) : Int) ≤ (244 : Int)))) (fun g39 => ?_) (fun g39 => ?_)
          ·replace h := bif_t h g39
           refine Vr hT [0] (rPoints_j1_E l0 i3_2 3) ?_
           exact ⟨_, rfl, h⟩
          ·replace h := bif_f h g39
           refine Vrs hT [] ⟨[(2, kB false)], [], []⟩ ?_
           refine Vc [] [] (rPoints_R false) (W_ret ?_)
           exact ⟨.inl rfl, by cases h; rfl⟩
         ·replace h := bif_f h g38
          refine Vg hT fN [(2, false)] [] [0] ⟨[(0, kH 0), (3, kI i3_2), (4, kI (((l0.getD i3_2.toNat 0).toNat : Nat) : Int)), (6, kI 128), (7, kI 191), (36, kB false)], [], [ob 5 l0]⟩ (aP g38 aN) ?_
          refine Vi (false) (fun hb => by cases hb) (fun _ => ?_)
          refine Vrs hT [] ⟨[(2, kB false)], [], []⟩ ?_
          refine Vc [] [] (rPoints_R false) (W_ret ?_)
          exact ⟨.inl rfl, by cases h; rfl⟩
       ·replace h := bif_f h g37
        refine Vg hT fN [(2, false)] [] [0] ⟨[(0, kH 0), (3, kI i3_2), (4, kI (((l0.getD i3_2.toNat 0).toNat : Nat) : Int)), (6, kI 128), (7, kI 191), (29, kB false)], [], [ob 5 l0]⟩ (aP g37 aN) ?_
        refine Vi (false) (fun hb => by cases hb) (fun _ => ?_)
        refine W_seq ?_
        rcases Bool.eq_false_or_eq_true (decide ((240 : Int) ≤ (((l0.getD i3_2.toNat 0).toNat : Nat) : Int))) with g41 | g41
        ·replace h := bif_t h g41
         refine Vg hT fN [(2, true)] [] [0] ⟨[(0, kH 0), (3, kI i3_2), (4, kI (((l0.getD i3_2.toNat 0).toNat : Nat) : Int)), (6, kI 128), (7, kI 191), (36, kB (decide ((((l0.getD i3_2.toNat 0).toNat : Nat) : Int) ≤ (244 : Int))))], [], [ob 5 l0]⟩ (aP g41 aN) ?_
         refine Vi ((decide ((((l0.getD i3_2.toNat 0).toNat : Nat) : Int) ≤ (244 : Int)))) (fun g42 => ?_) (fun g42 => ?_)
         ·replace h := bif_t h g42
          refine Vr hT [0] (rPoints_j1_E l0 i3_2 3) ?_
          exact ⟨_, rfl, h⟩
         ·replace h := bif_f h g42
          refine Vrs hT [] ⟨[(2, kB false)], [], []⟩ ?_
          refine Vc [] [] (rPoints_R false) (W_ret ?_)
          exact ⟨.inl rfl, by cases h; rfl⟩
        ·replace h := bif_f h g41
         refine Vg hT fN [(2, false)] [] [0] ⟨[(0, kH 0), (3, kI i3_2), (4, kI (((l0.getD i3_2.toNat 0).toNat : Nat) : Int)), (6, kI 128), (7, kI 191), (36, kB false)], [], [ob 5 l0]⟩ (aP g41 aN) ?_
         refine Vi (false) (fun hb => by cases hb) (fun _ => ?_)
         refine Vrs hT [] ⟨[(2, kB false)], [], []⟩ ?_
         refine Vc [] [] (rPoints_R false) (W_ret ?_)
         exact ⟨.inl rfl, by cases h; rfl⟩
     ·replace h := bif_f h g36
      refine Vg hT fN [(2, false)] [] [0] ⟨[(0, kH 0), (3, kI i3_2), (4, kI (((l0.getD i3_2.toNat 0).toNat : Nat) : Int)), (6, kI 128), (7, kI 191), (22, kB false)], [], [ob 5 l0]⟩ (aP g36 aN) ?_
      refine Vi (false) (fun hb => by cases hb) (fun _ => ?_)
      refine W_seq ?_
      rcases Bool.eq_false_or_eq_true (decide ((224 : Int) ≤ (((l0.getD i3_2.toNat 0).toNat : Nat) : Int))) with g44 | g44
      ·replace h := bif_t h g44
       refine Vg hT fN [(2, true)] [] [0] ⟨[(0, kH 0), (3, kI i3_2), (4, kI (((l0.getD i3_2.toNat 0).toNat : Nat) : Int)), (6, kI 128), (7, kI 191), (29, kB (decide ((((l0.getD i3_2.toNat 0).toNat : Nat) : Int) ≤ (239 : Int))))], [], [ob 5 l0]⟩ (aP g44 aN) ?_
       refine Vi ((decide ((((l0.getD i3_2.toNat 0).toNat : Nat) : Int) ≤ (239 : Int)))) (fun g47 => ?_) (fun g47 => ?_)
       ·replace h := bif_t h g47
        refine Vr hT [0] (rPoints_j1_E l0 i3_2 2) ?_
        exact ⟨_, rfl, h⟩
       ·replace h := bif_f h g47
        refine W_seq ?_
        rcases Bool.eq_false_or_eq_true (decide ((240 : Int) ≤ (((l0.getD i3_2.toNat 0).toNat : Nat) : Int))) with g45 | g45
        ·replace h := bif_t h g45
         refine Vg hT fN [(2, true)] [] [0] ⟨[(0, kH 0), (3, kI i3_2), (4, kI (((l0.getD i3_2.toNat 0).toNat : Nat) : Int)), (6, kI 128), (7, kI 191), (36, kB (decide ((((l0.getD i3_2.toNat 0).toNat : Nat) : Int) ≤ (244 : Int))))], [], [ob 5 l0]⟩ (aP g45 aN) ?_
         refine Vi ((decide ((((l0.getD i3_2.toNat 0).toNat : Nat) : Int) ≤ (244 : Int)))) (fun g46 => ?_) (fun g46 => ?_)
         ·replace h := bif_t h g46
          refine Vr hT [0] (rPoints_j1_E l0 i3_2 3) ?_
          exact ⟨_, rfl, h⟩
         ·replace h := bif_f h g46
          refine Vrs hT [] ⟨[(2, kB false)], [], []⟩ ?_
          refine Vc [] [] (rPoints_R false) (W_ret ?_)
          exact ⟨.inl rfl, by cases h; rfl⟩
        ·replace h := bif_f h g45
         refine Vg hT fN [(2, false)] [] [0] ⟨[(0, kH 0), (3, kI i3_2), (4, kI (((l0.getD i3_2.toNat 0).toNat : Nat) : Int)), (6, kI 128), (7, kI 191), (36, kB false)], [], [ob 5 l0]⟩ (aP g45 aN) ?_
         refine Vi (false) (fun hb => by cases hb) (fun _ => ?_)
         refine Vrs hT [] ⟨[(2, kB false)], [], []⟩ ?_
         refine Vc [] [] (rPoints_R false) (W_ret ?_)
         exact ⟨.inl rfl, by cases h; rfl⟩
      ·replace h := bif_f h g44
       refine Vg hT fN [(2, false)] [] [0] ⟨[(0, kH 0), (3, kI i3_2), (4, kI (((l0.getD i3_2.toNat 0).toNat : Nat) : Int)), (6, kI 128), (7, kI 191), (29, kB false)], [], [ob 5 l0]⟩ (aP g44 aN) ?_
       refine Vi (false) (fun hb => by cases hb) (fun _ => ?_)
       refine W_seq ?_
       rcases Bool.eq_false_or_eq_true (decide ((240 : Int) ≤ (((l0.getD i3_2.toNat 0).toNat : Nat) : Int))) with g48 | g48
       ·replace h := bif_t h g48
        refine Vg hT fN [(2, true)] [] [0] ⟨[(0, kH 0), (3, kI i3_2), (4, kI (((l0.getD i3_2.toNat 0).toNat : Nat) : Int)), (6, kI 128), (7, kI 191), (36, kB (decide ((((l0.getD i3_2.toNat 0).toNat : Nat) : Int) ≤ (244 : Int))))], [], [ob 5 l0]⟩ (aP g48 aN) ?_
        refine Vi ((decide ((((l0.getD i3_2.toNat 0).toNat : Nat) : Int) ≤ (244 : Int)))) (fun g49 => ?_) (fun g49 => ?_)
        ·replace h := bif_t h g49
         refine Vr hT [0] (rPoints_j1_E l0 i3_2 3) ?_
         exact ⟨_, rfl, h⟩
        ·replace h := bif_f h g49
         refine Vrs hT [] ⟨[(2, kB false)], [], []⟩ ?_
         refine Vc [] [] (rPoints_R false) (W_ret ?_)
         exact ⟨.inl rfl, by cases h; rfl⟩
       ·replace h := bif_f h g48
        refine Vg hT fN [(2, false)] [] [0] ⟨[(0, kH 0), (3, kI i3_2), (4, kI (((l0.getD i3_2.toNat 0).toNat : Nat) : Int)), (6, kI 128), (7, kI 191), (36, kB false)], [], [ob 5 l0]⟩ (aP g48 aN) ?_
        refine Vi (false) (fun hb => by cases hb) (fun _ => ?_)
        refine Vrs hT [] ⟨[(2, kB false)], [], []⟩ ?_
        refine Vc [] [] (rPoints_R false) (W_ret ?_)
        exact ⟨.inl rfl, by cases h; rfl⟩
  ·replace h := bif_f h g51
   refine Vc [] [] ⟨[], [], []⟩ (W_exit ?_)
   refine Vrs hT [] ⟨[(2, kB true)], [], []⟩ ?_
   refine Vc [] [] (rPoints_R true) (W_ret ?_)
   exact ⟨.inl rfl, by cases h; rfl⟩
def rText_j1_E (a0 : UInt8) (a1 : List UInt8) (i5_2 : Int) : S := ⟨[(0, kU a0), (1, kH 0), (5, kI i5_2)], [], [ob 5 a1]⟩
abbrev rText_j1_P (n : Nat) (a0 : UInt8) (a1 : List UInt8) (i5_2 : Int) (k_l1 : Int → Option (Bool)) (r : Bool) : S → Prop := fun s => s = rText_j1_E a0 a1 i5_2 ∧ rText_j1 n a0 a1 i5_2 k_l1 = some r
def rText_l2_E (a0 : UInt8) (a1 : List UInt8) (i5_2 : Int) (i9_187 : Int) : S := ⟨[(0, kU a0), (1, kH 0), (5, kI i5_2), (6, kU (a1.getD i5_2.toNat 0)), (7, kB true), (8, kH 1), (9, kI i9_187)], [], [ob 5 a1, nb 5 [32, 39, 40, 41, 43, 44, 45, 46, 47, 58, 61, 63]]⟩
abbrev rText_l2_P (n : Nat) (a0 : UInt8) (a1 : List UInt8) (i5_2 : Int) (k_l1 : Int → Option (Bool)) (r : Bool) (fu : Nat) : S → Prop := fun s => ∃ (i9_187 : Int), s = rText_l2_E a0 a1 i5_2 i9_187 ∧ rText_l2 n a0 a1 i5_2 k_l1 fu i9_187 = some r
def rText_l3_E (a0 : UInt8) (a1 : List UInt8) (i5_2 : Int) (i9_188 : Int) : S := ⟨[(0, kU a0), (1, kH 0), (5, kI i5_2), (6, kU (a1.getD i5_2.toNat 0)), (7, kB true), (8, kH 1), (9, kI i9_188)], [], [ob 5 a1, nb 5 [32, 39, 40, 41, 43, 44, 45, 46, 47, 58, 61, 63]]⟩
abbrev rText_l3_P (n : Nat) (a0 : UInt8) (a1 : List UInt8) (i5_2 : Int) (k_l1 : Int → Option (Bool)) (r : Bool) (fu : Nat) : S → Prop := fun s => ∃ (i9_188 : Int), s = rText_l3_E a0 a1 i5_2 i9_188 ∧ rText_l3 n a0 a1 i5_2 k_l1 fu i9_188 = some r
def rText_l4_E (a0 : UInt8) (a1 : List UInt8) (i5_2 : Int) (p7_136 : Bool) (i9_189 : Int) : S := ⟨[(0, kU a0), (1, kH 0), (5, kI i5_2), (6, kU (a1.getD i5_2.toNat 0)), (7, kB p7_136), (8, kH 1), (9, kI i9_189)], [], [ob 5 a1, nb 5 [32, 39, 40, 41, 43, 44, 45, 46, 47, 58, 61, 63]]⟩
abbrev rText_l4_P (n : Nat) (a0 : UInt8) (a1 : List UInt8) (i5_2 : Int) (k_l1 : Int → Option (Bool)) (r : Bool) (fu : Nat) : S → Prop := fun s => ∃ (p7_136 : Bool), ∃ (i9_189 : Int), s = rText_l4_E a0 a1 i5_2 p7_136 i9_189 ∧ rText_l4 n a0 a1 i5_2 k_l1 fu p7_136 i9_189 = some r
def rText_l5_E (a0 : UInt8) (a1 : List UInt8) (i5_2 : Int) (p7_137 : Bool) (i9_190 : Int) : S := ⟨[(0, kU a0), (1, kH 0), (5, kI i5_2), (6, kU (a1.getD i5_2.toNat 0)), (7, kB p7_137), (8, kH 1), (9, kI i9_190)], [], [ob 5 a1, nb 5 [32, 39, 40, 41, 43, 44, 45, 46, 47, 58, 61, 63]]⟩
abbrev rText_l5_P (n : Nat) (a0 : UInt8) (a1 : List UInt8) (i5_2 : Int) (k_l1 : Int → Option (Bool)) (r : Bool) (fu : Nat) : S → Prop := fun s => ∃ (p7_137 : Bool), ∃ (i9_190 : Int), s = rText_l5_E a0 a1 i5_2 p7_137 i9_190 ∧ rText_l5 n a0 a1 i5_2 k_l1 fu p7_137 i9_190 = some r
def rText_l6_E (a0 : UInt8) (a1 : List UInt8) (i5_2 : Int) (p7_138 : Bool) (i9_191 : Int) : S := ⟨[(0, kU a0), (1, kH 0), (5, kI i5_2), (6, kU (a1.getD i5_2.toNat 0)), (7, kB p7_138), (8, kH 1), (9, kI i9_191)], [], [ob 5 a1, nb 5 [32, 39, 40, 41, 43, 44, 45, 46, 47, 58, 61, 63]]⟩
abbrev rText_l6_P (n : Nat) (a0 : UInt8) (a1 : List UInt8) (i5_2 : Int) (k_l1 : Int → Option (Bool)) (r : Bool) (fu : Nat) : S → Prop := fun s => ∃ (p7_138 : Bool), ∃ (i9_191 : Int), s = rText_l6_E a0 a1 i5_2 p7_138 i9_191 ∧ rText_l6 n a0 a1 i5_2 k_l1 fu p7_138 i9_191 = some r
def rText_l7_E (a0 : UInt8) (a1 : List UInt8) (i5_2 : Int) (p7_139 : Bool) (i9_192 : Int) : S := ⟨[(0, kU a0), (1, kH 0), (5, kI i5_2), (6, kU (a1.getD i5_2.toNat 0)), (7, kB p7_139), (8, kH 1), (9, kI i9_192)], [], [ob 5 a1, nb 5 [32, 39, 40, 41, 43, 44, 45, 46, 47, 58, 61, 63]]⟩
abbrev rText_l7_P (n : Nat) (a0 : UInt8) (a1 : List UInt8) (i5_2 : Int) (k_l1 : Int → Option (Bool)) (r : Bool) (fu : Nat) : S → Prop := fun s => ∃ (p7_139 : Bool), ∃ (i9_192 : Int), s = rText_l7_E a0 a1 i5_2 p7_139 i9_192 ∧ rText_l7 n a0 a1 i5_2 k_l1 fu p7_139 i9_192 = some r
def rText_l8_E (a0 : UInt8) (a1 : List UInt8) (i5_2 : Int) (i9_193 : Int) : S := ⟨[(0, kU a0), (1, kH 0), (5, kI i5_2), (6, kU (a1.getD i5_2.toNat 0)), (7, kB true), (8, kH 1), (9, kI i9_193)], [], [ob 5 a1, nb 5 [32, 39, 40, 41, 43, 44, 45, 46, 47, 58, 61, 63]]⟩
abbrev rText_l8_P (n : Nat) (a0 : UInt8) (a1 : List UInt8) (i5_2 : Int) (k_l1 : Int → Option (Bool)) (r : Bool) (fu : Nat) : S → Prop := fun s => ∃ (i9_193 : Int), s = rText_l8_E a0 a1 i5_2 i9_193 ∧ rText_l8 n a0 a1 i5_2 k_l1 fu i9_193 = some r
def rText_l9_E (a0 : UInt8) (a1 : List UInt8) (i5_2 : Int) (p7_140 : Bool) (i9_194 : Int) : S := ⟨[(0, kU a0), (1, kH 0), (5, kI i5_2), (6, kU (a1.getD i5_2.toNat 0)), (7, kB p7_140), (8, kH 1), (9, kI i9_194)], [], [ob 5 a1, nb 5 [32, 39, 40, 41, 43, 44, 45, 46, 47, 58, 61, 63]]⟩
abbrev rText_l9_P (n : Nat) (a0 : UInt8) (a1 : List UInt8) (i5_2 : Int) (k_l1 : Int → Option (Bool)) (r : Bool) (fu : Nat) : S → Prop := fun s => ∃ (p7_140 : Bool), ∃ (i9_194 : Int), s = rText_l9_E a0 a1 i5_2 p7_140 i9_194 ∧ rText_l9 n a0 a1 i5_2 k_l1 fu p7_140 i9_194 = some r
def rText_l10_E (a0 : UInt8) (a1 : List UInt8) (i5_2 : Int) (p7_141 : Bool) (i9_195 : Int) : S := ⟨[(0, kU a0), (1, kH 0), (5, kI i5_2), (6, kU (a1.getD i5_2.toNat 0)), (7, kB p7_141), (8, kH 1), (9, kI i9_195)], [], [ob 5 a1, nb 5 [32, 39, 40, 41, 43, 44, 45, 46, 47, 58, 61, 63]]⟩
abbrev rText_l10_P (n : Nat) (a0 : UInt8) (a1 : List UInt8) (i5_2 : Int) (k_l1 : Int → Option (Bool)) (r : Bool) (fu : Nat) : S → Prop := fun s => ∃ (p7_141 : Bool), ∃ (i9_195 : Int), s = rText_l10_E a0 a1 i5_2 p7_141 i9_195 ∧ rText_l10 n a0 a1 i5_2 k_l1 fu p7_141 i9_195 = some r
def rText_l11_E (a0 : UInt8) (a1 : List UInt8) (i5_2 : Int) (p7_142 : Bool) (i9_196 : Int) : S := ⟨[(0, kU a0), (1, kH 0), (5, kI i5_2), (6, kU (a1.getD i5_2.toNat 0)), (7, kB p7_142), (8, kH 1), (9, kI i9_196)], [], [ob 5 a1, nb 5 [32, 39, 40, 41, 43, 44, 45, 46, 47, 58, 61, 63]]⟩
abbrev rText_l11_P (n : Nat) (a0 : UInt8) (a1 : List UInt8) (i5_2 : Int) (k_l1 : Int → Option (Bool)) (r : Bool) (fu : Nat) : S → Prop := fun s => ∃ (p7_142 : Bool), ∃ (i9_196 : Int), s = rText_l11_E a0 a1 i5_2 p7_142 i9_196 ∧ rText_l11 n a0 a1 i5_2 k_l1 fu p7_142 i9_196 = some r
def rText_l12_E (a0 : UInt8) (a1 : List UInt8) (i5_2 : Int) (p7_143 : Bool) (i9_197 : Int) : S := ⟨[(0, kU a0), (1, kH 0), (5, kI i5_2), (6, kU (a1.getD i5_2.toNat 0)), (7, kB p7_143), (8, kH 1), (9, kI i9_197)], [], [ob 5 a1, nb 5 [32, 39, 40, 41, 43, 44, 45, 46, 47, 58, 61, 63]]⟩
abbrev rText_l12_P (n : Nat) (a0 : UInt8) (a1 : List UInt8) (i5_2 : Int) (k_l1 : Int → Option (Bool)) (r : Bool) (fu : Nat) : S → Prop := fun s => ∃ (p7_143 : Bool), ∃ (i9_197 : Int), s = rText_l12_E a0 a1 i5_2 p7_143 i9_197 ∧ rText_l12 n a0 a1 i5_2 k_l1 fu p7_143 i9_197 = some r
def rText_l1_E (a0 : UInt8) (a1 : List UInt8) (i5_2 : Int) : S := ⟨[(0, kU a0), (1, kH 0), (5, kI i5_2)], [], [ob 5 a1]⟩
abbrev rText_l1_P (n : Nat) (a0 : UInt8) (a1 : List UInt8) (r : Bool) (fu : Nat) : S → Prop := fun s => ∃ (i5_2 : Int), s = rText_l1_E a0 a1 i5_2 ∧ rText_l1 n a0 a1 fu i5_2 = some r
def rText_R (r : Bool) : S := ⟨[(4, kB r)], [], []⟩
def rText_ct (n : Nat) (r : Bool) : Ct := ctc rU8.rd fun _ l0 => ctc (rB 5).rd fun _ l1 => ct0 fun H => ([rText n l0 l1 = some r], shA H.length (kB r), shH H.length [])
theorem rText_ok (n : Nat) (r : Bool) : FnOk Try.prog Tr 31 (rText_ct n r) := by
 refine fnok Try.func31 ?_
 refine HO_c rU8 fun l0 _ => HO_c (rB 5) fun l1 _ => HO_0 tabO_tb (rText_R r) [.tmp 4] [] 68 Try.func31 fun w hG h => ?_
 unfold rText at h
 have hT := tabO_tb
 refine Vrs hT [0] ⟨[(0, kU l0), (1, kH 0)], [], [ob 5 l1]⟩ ?_
 refine W_seq ?_
 refine Vrs hT [0] ⟨[(0, kU l0), (1, kH 0), (11, kB (l0 == 12))], [], [ob 5 l1]⟩ ?_
 refine Vi ((l0 == 12)) (fun g80 => ?_) (fun g80 => ?_)
 ·replace h := bif_t h g80
  obtain ⟨r13, g1, h⟩ := bind_some' h
  refine Vgs hT (fT 1 (rPoints_ok n r13) fN) [] [] [] ⟨[(4, kB r13)], [], []⟩ (aP g1 aN) ?_
  refine Vc [] [] (rText_R r13) (W_ret ?_)
  exact ⟨.inl rfl, by cases h; rfl⟩
 ·replace h := bif_f h g80
  refine W_skip ?_
  refine W_seq ?_
  refine Vrs hT [0] ⟨[(0, kU l0), (1, kH 0), (5, kI 0)], [], [ob 5 l1]⟩ ?_
  refine W_block ?_
  refine Vc [] [0] (rText_l1_E l0 l1 0) (W_lp ((rText_l1_P n l0 l1 r)) n ⟨_, rfl, h⟩ ?_)
  rintro fu_l1 _ ⟨i5_2, rfl, h⟩
  cases fu_l1 with
  | zero => cases h
  | succ fu_l1 =>
   refine ⟨fu_l1, rfl, ?_⟩
   rw [rText_l1] at h
   refine W_seq ?_
   refine Vrs hT [0] ⟨[(0, kU l0), (1, kH 0), (5, kI i5_2), (17, kB (decide (i5_2 < ((l1.length : Nat) : Int))))], [], [ob 5 l1]⟩ ?_
   refine Vi ((decide (i5_2 < ((l1.length : Nat) : Int)))) (fun g79 => ?_) (fun g79 => ?_)
   ·replace h := bif_t h g79
    refine Vc [] [0] ⟨[(0, kU l0), (1, kH 0), (5, kI i5_2)], [], [ob 5 l1]⟩ (W_skip ?_)
    refine W_join (rText_j1_P n l0 l1 i5_2 (rText_l1 n l0 l1 fu_l1) r) ?_ ?_
    ·rintro _ ⟨rfl, h⟩
     unfold rText_j1 at h
     obtain ⟨g2, h⟩ := gd_some h
     refine Vg hT fN [] [] [0] (rText_l1_E l0 l1 (i5_2 + 1)) (aP g2 aN) ?_
     exact ⟨_, rfl, h⟩
    ·refine W_block ?_
     obtain ⟨g3, g4, h⟩ := gd2 h
     refine Vgs hT fN [] [] [0] ⟨[(0, kU l0), (1, kH 0), (5, kI i5_2), (6, kU (l1.getD i5_2.toNat 0))], [], [ob 5 l1]⟩ (aP g3 (aP g4 aN)) ?_
     refine W_seq ?_
     refine Vrs hT [0] ⟨[(0, kU l0), (1, kH 0), (5, kI i5_2), (6, kU (l1.getD i5_2.toNat 0)), (25, kB (decide ((128 : UInt8) ≤ (l1.getD i5_2.toNat 0))))], [], [ob 5 l1]⟩ ?_
     refine Vi ((decide ((128 : UInt8) ≤ (l1.getD i5_2.toNat 0)))) (fun g78 => ?_) (fun g78 => ?_)
     ·replace h := bif_t h g78
      refine Vrs hT [] ⟨[(4, kB false)], [], []⟩ ?_
      refine Vc [] [] (rText_R false) (W_ret ?_)
      exact ⟨.inl rfl, by cases h; rfl⟩
     ·replace h := bif_f h g78
      refine W_skip ?_
      refine Vrs hT [0] ⟨[(0, kU l0), (1, kH 0), (5, kI i5_2), (6, kU (l1.getD i5_2.toNat 0)), (27, kB (l0 == 19))], [], [ob 5 l1]⟩ ?_
      refine Vi ((l0 == 19)) (fun g77 => ?_) (fun g77 => ?_)
      ·replace h := bif_t h g77
       refine W_seq ?_
       rcases Bool.eq_false_or_eq_true (decide ((97 : UInt8) ≤ (l1.getD i5_2.toNat 0))) with g5 | g5
       ·replace h := bif_t h g5
        rcases Bool.eq_false_or_eq_true (decide ((l1.getD i5_2.toNat 0) ≤ (122 : UInt8))) with g6 | g6
        ·replace h := bif_t h g6
         refine Vg hT fN [(2, true), (6, true)] [] [0] ⟨[(0, kU l0), (1, kH 0), (5, kI i5_2), (6, kU (l1.getD i5_2.toNat 0)), (7, kB true)], [], [ob 5 l1]⟩ (aP g5 (aP g6 aN)) ?_
         refine Vrs hT [0, 1] ⟨[(0, kU l0), (1, kH 0), (5, kI i5_2), (6, kU (l1.getD i5_2.toNat 0)), (7, kB true), (8, kH 1)], [], [ob 5 l1, ⟨.row, 5, 1, 12, .b [32, 39, 40, 41, 43, 44, 45, 46, 47, 58, 61, 63]⟩]⟩ ?_
         refine W_seq ?_
         refine Vrs hT [0, 1] ⟨[(0, kU l0), (1, kH 0), (5, kI i5_2), (6, kU (l1.getD i5_2.toNat 0)), (7, kB true), (8, kH 1), (9, kI 0)], [], [ob 5 l1, ⟨.row, 5, 1, 12, .b [32, 39, 40, 41, 43, 44, 45, 46, 47, 58, 61, 63]⟩]⟩ ?_
         refine W_block ?_
         refine Vc [] [0, 1] (rText_l2_E l0 l1 i5_2 0) (W_lp ((rText_l2_P n l0 l1 i5_2 (rText_l1 n l0 l1 fu_l1) r)) n ⟨_, rfl, h⟩ ?_)
         rintro fu_l2 _ ⟨i9_187, rfl, h⟩
         cases fu_l2 with
         | zero => cases h
         | succ fu_l2 =>
          refine ⟨fu_l2, rfl, ?_⟩
          rw [rText_l2] at h
          refine W_seq ?_
          refine Vrs hT [0, 1] ⟨[(0, kU l0), (1, kH 0), (5, kI i5_2), (6, kU (l1.getD i5_2.toNat 0)), (7, kB true), (8, kH 1), (9, kI i9_187), (54, kB (decide (i9_187 < (([32, 39, 40, 41, 43, 44, 45, 46, 47, 58, 61, 63].length : Nat) : Int))))], [], [ob 5 l1, nb 5 [32, 39, 40, 41, 43, 44, 45, 46, 47, 58, 61, 63]]⟩ ?_
          refine Vi ((decide (i9_187 < (([32, 39, 40, 41, 43, 44, 45, 46, 47, 58, 61, 63].length : Nat) : Int)))) (fun g8 => ?_) (fun g8 => ?_)
          ·replace h := bif_t h g8
           refine W_skip ?_
           refine W_seq ?_
           refine W_block ?_
           refine Vr hT [0, 1] ⟨[(0, kU l0), (1, kH 0), (5, kI i5_2), (6, kU (l1.getD i5_2.toNat 0)), (7, kB true), (8, kH 1), (9, kI i9_187)], [], [ob 5 l1, nb 5 [32, 39, 40, 41, 43, 44, 45, 46, 47, 58, 61, 63]]⟩ ?_
           obtain ⟨g7, h⟩ := gd_some h
           refine Vg hT fN [] [] [0, 1] (rText_l2_E l0 l1 i5_2 (i9_187 + 1)) (aP g7 aN) ?_
           exact ⟨_, rfl, h⟩
          ·replace h := bif_f h g8
           refine Vc [] [0] ⟨[(0, kU l0), (1, kH 0), (5, kI i5_2), (7, kB true)], [], [ob 5 l1]⟩ (W_exit ?_)
           refine Vrs hT [0] ⟨[(0, kU l0), (1, kH 0), (5, kI i5_2), (67, kB false)], [], [ob 5 l1]⟩ ?_
           refine Vi (false) (fun hb => by cases hb) (fun _ => ?_)
           refine Vc [] [0] (rText_j1_E l0 l1 i5_2) (W_skip ?_)
           exact ⟨rfl, h⟩
        ·replace h := bif_f h g6
         rcases Bool.eq_false_or_eq_true (decide ((65 : UInt8) ≤ (l1.getD i5_2.toNat 0))) with g9 | g9
         ·replace h := bif_t h g9
          rcases Bool.eq_false_or_eq_true (decide ((l1.getD i5_2.toNat 0) ≤ (90 : UInt8))) with g10 | g10
          ·replace h := bif_t h g10
           refine Vg hT fN [(2, true), (6, false), (9, true), (14, true)] [] [0] ⟨[(0, kU l0), (1, kH 0), (5, kI i5_2), (6, kU (l1.getD i5_2.toNat 0)), (7, kB true)], [], [ob 5 l1]⟩ (aP g5 (aP g6 (aP g9 (aP g10 aN)))) ?_
           refine Vrs hT [0, 1] ⟨[(0, kU l0), (1, kH 0), (5, kI i5_2), (6, kU (l1.getD i5_2.toNat 0)), (7, kB true), (8, kH 1)], [], [ob 5 l1, ⟨.row, 5, 1, 12, .b [32, 39, 40, 41, 43, 44, 45, 46, 47, 58, 61, 63]⟩]⟩ ?_
           refine W_seq ?_
           refine Vrs hT [0, 1] ⟨[(0, kU l0), (1, kH 0), (5, kI i5_2), (6, kU (l1.getD i5_2.toNat 0)), (7, kB true), (8, kH 1), (9, kI 0)], [], [ob 5 l1, ⟨.row, 5, 1, 12, .b [32, 39, 40, 41, 43, 44, 45, 46, 47, 58, 61, 63]⟩]⟩ ?_
           refine W_block ?_
           refine Vc [] [0, 1] (rText_l3_E l0 l1 i5_2 0) (W_lp ((rText_l3_P n l0 l1 i5_2 (rText_l1 n l0 l1 fu_l1) r)) n ⟨_, rfl, h⟩ ?_)
           rintro fu_l3 _ ⟨i9_188, rfl, h⟩
           cases fu_l3 with
           | zero => cases h
           | succ fu_l3 =>
            refine ⟨fu_l3, rfl, ?_⟩
            rw [rText_l3] at h
            refine W_seq ?_
            refine Vrs hT [0, 1] ⟨[(0, kU l0), (1, kH 0), (5, kI i5_2), (6, kU (l1.getD i5_2.toNat 0)), (7, kB true), (8, kH 1), (9, kI i9_188), (54, kB (decide (i9_188 < (([32, 39, 40, 41, 43, 44, 45, 46, 47, 58, 61, 63].length : Nat) : Int))))], [], [ob 5 l1, nb 5 [32, 39, 40, 41, 43, 44, 45, 46, 47, 58, 61, 63]]⟩ ?_
            refine Vi ((decide (i9_188 < (([32, 39, 40, 41, 43, 44, 45, 46, 47, 58, 61, 63].length : Nat) : Int)))) (fun g12 => ?_) (fun g12 => ?_)
            ·replace h := bif_t h g12
             refine W_skip ?_
             refine W_seq ?_
             refine W_block ?_
             refine Vr hT [0, 1] ⟨[(0, kU l0), (1, kH 0), (5, kI i5_2), (6, kU (l1.getD i5_2.toNat 0)), (7, kB true), (8, kH 1), (9, kI i9_188)], [], [ob 5 l1, nb 5 [32, 39, 40, 41, 43, 44, 45, 46, 47, 58, 61, 63]]⟩ ?_
             obtain ⟨g11, h⟩ := gd_some h
             refine Vg hT fN [] [] [0, 1] (rText_l3_E l0 l1 i5_2 (i9_188 + 1)) (aP g11 aN) ?_
             exact ⟨_, rfl, h⟩
            ·replace h := bif_f h g12
             refine Vc [] [0] ⟨[(0, kU l0), (1, kH 0), (5, kI i5_2), (7, kB true)], [], [ob 5 l1]⟩ (W_exit ?_)
             refine Vrs hT [0] ⟨[(0, kU l0), (1, kH 0), (5, kI i5_2), (67, kB false)], [], [ob 5 l1]⟩ ?_
             refine Vi (false) (fun hb => by cases hb) (fun _ => ?_)
             refine Vc [] [0] (rText_j1_E l0 l1 i5_2) (W_skip ?_)
             exact ⟨rfl, h⟩
          ·replace h := bif_f h g10
           rcases Bool.eq_false_or_eq_true (decide ((48 : UInt8) ≤ (l1.getD i5_2.toNat 0))) with g13 | g13
           ·replace h := bif_t h g13
            refine Vg hT fN [(2, true), (6, false), (9, true), (14, false), (17, true)] [] [0] ⟨[(0, kU l0), (1, kH 0), (5, kI i5_2), (6, kU (l1.getD i5_2.toNat 0)), (7, kB (decide ((l1.getD i5_2.toNat 0) ≤ (57 : UInt8))))], [], [ob 5 l1]⟩ (aP g5 (aP g6 (aP g9 (aP g10 (aP g13 aN))))) ?_
            refine Vrs hT [0, 1] ⟨[(0, kU l0), (1, kH 0), (5, kI i5_2), (6, kU (l1.getD i5_2.toNat 0)), (7, kB (decide ((l1.getD i5_2.toNat 0) ≤ (57 : UInt8)))), (8, kH 1)], [], [ob 5 l1, ⟨.row, 5, 1, 12, .b [32, 39, 40, 41, 43, 44, 45, 46, 47, 58, 61, 63]⟩]⟩ ?_
            refine W_seq ?_
            refine Vrs hT [0, 1] ⟨[(0, kU l0), (1, kH 0), (5, kI i5_2), (6, kU (l1.getD i5_2.toNat 0)), (7, kB (decide ((l1.getD i5_2.toNat 0) ≤ (57 : UInt8)))), (8, kH 1), (9, kI 0)], [], [ob 5 l1, ⟨.row, 5, 1, 12, .b [32, 39, 40, 41, 43, 44, 45, 46, 47, 58, 61, 63]⟩]⟩ ?_
            refine W_block ?_
            refine Vc [] [0, 1] (rText_l4_E l0 l1 i5_2 (decide ((l1.getD i5_2.toNat 0) ≤ (57 : UInt8))) 0) (W_lp ((rText_l4_P n l0 l1 i5_2 (rText_l1 n l0 l1 fu_l1) r)) n ⟨_, _, rfl, h⟩ ?_)
            rintro fu_l4 _ ⟨p7_136, i9_189, rfl, h⟩
            cases fu_l4 with
            | zero => cases h
            | succ fu_l4 =>
             refine ⟨fu_l4, rfl, ?_⟩
             rw [rText_l4] at h
             refine W_seq ?_
             refine Vrs hT [0, 1] ⟨[(0, kU l0), (1, kH 0), (5, kI i5_2), (6, kU (l1.getD i5_2.toNat 0)), (7, kB p7_136), (8, kH 1), (9, kI i9_189), (54, kB (decide (i9_189 < (([32, 39, 40, 41, 43, 44, 45, 46, 47, 58, 61, 63].length : Nat) : Int))))], [], [ob 5 l1, nb 5 [32, 39, 40, 41, 43, 44, 45, 46, 47, 58, 61, 63]]⟩ ?_
             refine Vi ((decide (i9_189 < (([32, 39, 40, 41, 43, 44, 45, 46, 47, 58, 61, 63].length : Nat) : Int)))) (fun g20 => ?_) (fun g20 => ?_)
             ·replace h := bif_t h g20
              refine Vc [] [0, 1] ⟨[(0, kU l0), (1, kH 0), (5, kI i5_2), (6, kU (l1.getD i5_2.toNat 0)), (7, kB p7_136), (8, kH 1), (9, kI i9_189)], [], [ob 5 l1, nb 5 [32, 39, 40, 41, 43, 44, 45, 46, 47, 58, 61, 63]]⟩ (W_skip ?_)
              refine W_seq ?_
              refine W_block ?_
              rcases Bool.eq_false_or_eq_true p7_136 with g14 | g14
              ·replace h := bif_t h g14
               refine Vg hT fN [(1, true)] [] [0, 1] ⟨[(0, kU l0), (1, kH 0), (5, kI i5_2), (6, kU (l1.getD i5_2.toNat 0)), (7, kB true), (8, kH 1), (9, kI i9_189)], [], [ob 5 l1, nb 5 [32, 39, 40, 41, 43, 44, 45, 46, 47, 58, 61, 63]]⟩ (aP g14 aN) ?_
               obtain ⟨g15, h⟩ := gd_some h
               refine Vg hT fN [] [] [0, 1] (rText_l4_E l0 l1 i5_2 true (i9_189 + 1)) (aP g15 aN) ?_
               exact ⟨_, _, rfl, h⟩
              ·replace h := bif_f h g14
               obtain ⟨g16, g17, h⟩ := gd2 h
               refine Vg hT fN [(1, false)] [] [0, 1] ⟨[(0, kU l0), (1, kH 0), (5, kI i5_2), (6, kU (l1.getD i5_2.toNat 0)), (7, kB ((l1.getD i5_2.toNat 0) == ([32, 39, 40, 41, 43, 44, 45, 46, 47, 58, 61, 63].getD i9_189.toNat 0))), (8, kH 1), (9, kI i9_189)], [], [ob 5 l1, nb 5 [32, 39, 40, 41, 43, 44, 45, 46, 47, 58, 61, 63]]⟩ (aP g14 (aP g16 (aP g17 aN))) ?_
               obtain ⟨g18, h⟩ := gd_some h
               refine Vg hT fN [] [] [0, 1] (rText_l4_E l0 l1 i5_2 ((l1.getD i5_2.toNat 0) == ([32, 39, 40, 41, 43, 44, 45, 46, 47, 58, 61, 63].getD i9_189.toNat 0)) (i9_189 + 1)) (aP g18 aN) ?_
               exact ⟨_, _, rfl, h⟩
             ·replace h := bif_f h g20
              refine Vc [] [0] ⟨[(0, kU l0), (1, kH 0), (5, kI i5_2), (7, kB p7_136)], [], [ob 5 l1]⟩ (W_exit ?_)
              refine Vrs hT [0] ⟨[(0, kU l0), (1, kH 0), (5, kI i5_2), (67, kB (!p7_136))], [], [ob 5 l1]⟩ ?_
              refine Vi ((!p7_136)) (fun g19 => ?_) (fun g19 => ?_)
              ·replace h := bif_t h g19
               refine Vrs hT [] ⟨[(4, kB false)], [], []⟩ ?_
               refine Vc [] [] (rText_R false) (W_ret ?_)
               exact ⟨.inl rfl, by cases h; rfl⟩
              ·replace h := bif_f h g19
               refine Vc [] [0] (rText_j1_E l0 l1 i5_2) (W_skip ?_)
               exact ⟨rfl, h⟩
           ·replace h := bif_f h g13
            refine Vg hT fN [(2, true), (6, false), (9, true), (14, false), (17, false)] [] [0] ⟨[(0, kU l0), (1, kH 0), (5, kI i5_2), (6, kU (l1.getD i5_2.toNat 0)), (7, kB false)], [], [ob 5 l1]⟩ (aP g5 (aP g6 (aP g9 (aP g10 (aP g13 aN))))) ?_
            refine Vrs hT [0, 1] ⟨[(0, kU l0), (1, kH 0), (5, kI i5_2), (6, kU (l1.getD i5_2.toNat 0)), (7, kB false), (8, kH 1)], [], [ob 5 l1, ⟨.row, 5, 1, 12, .b [32, 39, 40, 41, 43, 44, 45, 46, 47, 58, 61, 63]⟩]⟩ ?_
            refine W_seq ?_
            refine Vrs hT [0, 1] ⟨[(0, kU l0), (1, kH 0), (5, kI i5_2), (6, kU (l1.getD i5_2.toNat 0)), (7, kB false), (8, kH 1), (9, kI 0)], [], [ob 5 l1, ⟨.row, 5, 1, 12, .b [32, 39, 40, 41, 43, 44, 45, 46, 47, 58, 61, 63]⟩]⟩ ?_
            refine W_block ?_
            refine Vc [] [0, 1] (rText_l5_E l0 l1 i5_2 false 0) (W_lp ((rText_l5_P n l0 l1 i5_2 (rText_l1 n l0 l1 fu_l1) r)) n ⟨_, _, rfl, h⟩ ?_)
            rintro fu_l5 _ ⟨p7_137, i9_190, rfl, h⟩
            cases fu_l5 with
            | zero => cases h
            | succ fu_l5 =>
             refine ⟨fu_l5, rfl, ?_⟩
             rw [rText_l5] at h
             refine W_seq ?_
             refine Vrs hT [0, 1] ⟨[(0, kU l0), (1, kH 0), (5, kI i5_2), (6, kU (l1.getD i5_2.toNat 0)), (7, kB p7_137), (8, kH 1), (9, kI i9_190), (54, kB (decide (i9_190 < (([32, 39, 40, 41, 43, 44, 45, 46, 47, 58, 61, 63].length : Nat) : Int))))], [], [ob 5 l1, nb 5 [32, 39, 40, 41, 43, 44, 45, 46, 47, 58, 61, 63]]⟩ ?_
             refine Vi ((decide (i9_190 < (([32, 39, 40, 41, 43, 44, 45, 46, 47, 58, 61, 63].length : Nat) : Int)))) (fun g27 => ?_) (fun g27 => ?_)
             ·replace h := bif_t h g27
              refine Vc [] [0, 1] ⟨[(0, kU l0), (1, kH 0), (5, kI i5_2), (6, kU (l1.getD i5_2.toNat 0)), (7, kB p7_137), (8, kH 1), (9, kI i9_190)], [], [ob 5 l1, nb 5 [32, 39, 40, 41, 43, 44, 45, 46, 47, 58, 61, 63]]⟩ (W_skip ?_)
              refine W_seq ?_
              refine W_block ?_
              rcases Bool.eq_false_or_eq_true p7_137 with g21 | g21
              ·replace h := bif_t h g21
               refine Vg hT fN [(1, true)] [] [0, 1] ⟨[(0, kU l0), (1, kH 0), (5, kI i5_2), (6, kU (l1.getD i5_2.toNat 0)), (7, kB true), (8, kH 1), (9, kI i9_190)], [], [ob 5 l1, nb 5 [32, 39, 40, 41, 43, 44, 45, 46, 47, 58, 61, 63]]⟩ (aP g21 aN) ?_
               obtain ⟨g22, h⟩ := gd_some h
               refine Vg hT fN [] [] [0, 1] (rText_l5_E l0 l1 i5_2 true (i9_190 + 1)) (aP g22 aN) ?_
               exact ⟨_, _, rfl, h⟩
              ·replace h := bif_f h g21
               obtain ⟨g23, g24, h⟩ := gd2 h
               refine Vg hT fN [(1, false)] [] [0, 1] ⟨[(0, kU l0), (1, kH 0), (5, kI i5_2), (6, kU (l1.getD i5_2.toNat 0)), (7, kB ((l1.getD i5_2.toNat 0) == ([32, 39, 40, 41, 43, 44, 45, 46, 47, 58, 61, 63].getD i9_190.toNat 0))), (8, kH 1), (9, kI i9_190)], [], [ob 5 l1, nb 5 [32, 39, 40, 41, 43, 44, 45, 46, 47, 58, 61, 63]]⟩ (aP g21 (aP g23 (aP g24 aN))) ?_
               obtain ⟨g25, h⟩ := gd_some h
               refine Vg hT fN [] [] [0, 1] (rText_l5_E l0 l1 i5_2 ((l1.getD i5_2.toNat 0) == ([32, 39, 40, 41, 43, 44, 45, 46, 47, 58, 61, 63].getD i9_190.toNat 0)) (i9_190 + 1)) (aP g25 aN) ?_
               exact ⟨_, _, rfl, h⟩
             ·replace h := bif_f h g27
              refine Vc [] [0] ⟨[(0, kU l0), (1, kH 0), (5, kI i5_2), (7, kB p7_137)], [], [ob 5 l1]⟩ (W_exit ?_)
              refine Vrs hT [0] ⟨[(0, kU l0), (1, kH 0), (5, kI i5_2), (67, kB (!p7_137))], [], [ob 5 l1]⟩ ?_
              refine Vi ((!p7_137)) (fun g26 => ?_) (fun g26 => ?_)
              ·replace h := bif_t h g26
               refine Vrs hT [] ⟨[(4, kB false)], [], []⟩ ?_
               refine Vc [] [] (rText_R false) (W_ret ?_)
               exact ⟨.inl rfl, by cases h; rfl⟩
              ·replace h := bif_f h g26
               refine Vc [] [0] (rText_j1_E l0 l1 i5_2) (W_skip ?_)
               exact ⟨rfl, h⟩
         ·replace h := bif_f h g9
          rcases Bool.eq_false_or_eq_true (decide ((48 : UInt8) ≤ (l1.getD i5_2.toNat 0))) with g28 | g28
          ·replace h := bif_t h g28
           refine Vg hT fN [(2, true), (6, false), (9, false), (17, true)] [] [0] ⟨[(0, kU l0), (1, kH 0), (5, kI i5_2), (6, kU (l1.getD i5_2.toNat 0)), (7, kB (decide ((l1.getD i5_2.toNat 0) ≤ (57 : UInt8))))], [], [ob 5 l1]⟩ (aP g5 (aP g6 (aP g9 (aP g28 aN)))) ?_
           refine Vrs hT [0, 1] ⟨[(0, kU l0), (1, kH 0), (5, kI i5_2), (6, kU (l1.getD i5_2.toNat 0)), (7, kB (decide ((l1.getD i5_2.toNat 0) ≤ (57 : UInt8)))), (8, kH 1)], [], [ob 5 l1, ⟨.row, 5, 1, 12, .b [32, 39, 40, 41, 43, 44, 45, 46, 47, 58, 61, 63]⟩]⟩ ?_
           refine W_seq ?_
           refine Vrs hT [0, 1] ⟨[(0, kU l0), (1, kH 0), (5, kI i5_2), (6, kU (l1.getD i5_2.toNat 0)), (7, kB (decide ((l1.getD i5_2.toNat 0) ≤ (57 : UInt8)))), (8, kH 1), (9, kI 0)], [], [ob 5 l1, ⟨.row, 5, 1, 12, .b [32, 39, 40, 41, 43, 44, 45, 46, 47, 58, 61, 63]⟩]⟩ ?_
           refine W_block ?_
           refine Vc [] [0, 1] (rText_l6_E l0 l1 i5_2 (decide ((l1.getD i5_2.toNat 0) ≤ (57 : UInt8))) 0) (W_lp ((rText_l6_P n l0 l1 i5_2 (rText_l1 n l0 l1 fu_l1) r)) n ⟨_, _, rfl, h⟩ ?_)
           rintro fu_l6 _ ⟨p7_138, i9_191, rfl, h⟩
           cases fu_l6 with
           | zero => cases h
           | succ fu_l6 =>
            refine ⟨fu_l6, rfl, ?_⟩
            rw [rText_l6] at h
            refine W_seq ?_
            refine Vrs hT [0, 1] ⟨[(0, kU l0), (1, kH 0), (5, kI i5_2), (6, kU (l1.getD i5_2.toNat 0)), (7, kB p7_138), (8, kH 1), (9, kI i9_191), (54, kB (decide (i9_191 < (([32, 39, 40, 41, 43, 44, 45, 46, 47, 58, 61, 63].length : Nat) : Int))))], [], [ob 5 l1, nb 5 [32, 39, 40, 41, 43, 44, 45, 46, 47, 58, 61, 63]]⟩ ?_
            refine Vi ((decide (i9_191 < (([32, 39, 40, 41, 43, 44, 45, 46, 47, 58, 61, 63].length : Nat) : Int)))) (fun g35 => ?_) (fun g35 => ?_)
            ·replace h := bif_t h g35
             refine Vc [] [0, 1] ⟨[(0, kU l0), (1, kH 0), (5, kI i5_2), (6, kU (l1.getD i5_2.toNat 0)), (7, kB p7_138), (8, kH 1), (9, kI i9_191)], [], [ob 5 l1, nb 5 [32, 39, 40, 41, 43, 44, 45, 46, 47, 58, 61, 63]]⟩ (W_skip ?_)
             refine W_seq ?_
             refine W_block ?_
             rcases Bool.eq_false_or_eq_true p7_138 with g29 | g29
             ·replace h := bif_t h g29
              refine Vg hT fN [(1, true)] [] [0, 1] ⟨[(0, kU l0), (1, kH 0), (5, kI i5_2), (6, kU (l1.getD i5_2.toNat 0)), (7, kB true), (8, kH 1), (9, kI i9_191)], [], [ob 5 l1, nb 5 [32, 39, 40, 41, 43, 44, 45, 46, 47, 58, 61, 63]]⟩ (aP g29 aN) ?_
              obtain ⟨g30, h⟩ := gd_some h
              refine Vg hT fN [] [] [0, 1] (rText_l6_E l0 l1 i5_2 true (i9_191 + 1)) (aP g30 aN) ?_
              exact ⟨_, _, rfl, h⟩
             ·replace h := bif_f h g29
              obtain ⟨g31, g32, h⟩ := gd2 h
              refine Vg hT fN [(1, false)] [] [0, 1] ⟨[(0, kU l0), (1, kH 0), (5, kI i5_2), (6, kU (l1.getD i5_2.toNat 0)), (7, kB ((l1.getD i5_2.toNat 0) == ([32, 39, 40, 41, 43, 44, 45, 46, 47, 58, 61, 63].getD i9_191.toNat 0))), (8, kH 1), (9, kI i9_191)], [], [ob 5 l1, nb 5 [32, 39, 40, 41, 43, 44, 45, 46, 47, 58, 61, 63]]⟩ (aP g29 (aP g31 (aP g32 aN))) ?_
              obtain ⟨g33, h⟩ := gd_some h
              refine Vg hT fN [] [] [0, 1] (rText_l6_E l0 l1 i5_2 ((l1.getD i5_2.toNat 0) == ([32, 39, 40, 41, 43, 44, 45, 46, 47, 58, 61, 63].getD i9_191.toNat 0)) (i9_191 + 1)) (aP g33 aN) ?_
              exact ⟨_, _, rfl, h⟩
            ·replace h := bif_f h g35
             refine Vc [] [0] ⟨[(0, kU l0), (1, kH 0), (5, kI i5_2), (7, kB p7_138)], [], [ob 5 l1]⟩ (W_exit ?_)
             refine Vrs hT [0] ⟨[(0, kU l0), (1, kH 0), (5, kI i5_2), (67, kB (!p7_138))], [], [ob 5 l1]⟩ ?_
             refine Vi ((!p7_138)) (fun g34 => ?_) (fun g34 => ?_)
             ·replace h := bif_t h g34
              refine Vrs hT [] ⟨[(4, kB false)], [], []⟩ ?_
              refine Vc [] [] (rText_R false) (W_ret ?_)
              exact ⟨.inl rfl, by cases h; rfl⟩
             ·replace h := bif_f h g34
              refine Vc [] [0] (rText_j1_E l0 l1 i5_2) (W_skip ?_)
              exact ⟨rfl, h⟩
          ·replace h := bif_f h g28
           refine Vg hT fN [(2, true), (6, false), (9, false), (17, false)] [] [0] ⟨[(0, kU l0), (1, kH 0), (5, kI i5_2), (6, kU (l1.getD i5_2.toNat 0)), (7, kB false)], [], [ob 5 l1]⟩ (aP g5 (aP g6 (aP g9 (aP g28 aN)))) ?_
           refine Vrs hT [0, 1] ⟨[(0, kU l0), (1, kH 0), (5, kI i5_2), (6, kU (l1.getD i5_2.toNat 0)), (7, kB false), (8, kH 1)], [], [ob 5 l1, ⟨.row, 5, 1, 12, .b [32, 39, 40, 41, 43, 44, 45, 46, 47, 58, 61, 63]⟩]⟩ ?_
           refine W_seq ?_
           refine Vrs hT [0, 1] ⟨[(0, kU l0), (1, kH 0), (5, kI i5_2), (6, kU (l1.getD i5_2.toNat 0)), (7, kB false), (8, kH 1), (9, kI 0)], [], [ob 5 l1, ⟨.row, 5, 1, 12, .b [32, 39, 40, 41, 43, 44, 45, 46, 47, 58, 61, 63]⟩]⟩ ?_
           refine W_block ?_
           refine Vc [] [0, 1] (rText_l7_E l0 l1 i5_2 false 0) (W_lp ((rText_l7_P n l0 l1 i5_2 (rText_l1 n l0 l1 fu_l1) r)) n ⟨_, _, rfl, h⟩ ?_)
           rintro fu_l7 _ ⟨p7_139, i9_192, rfl, h⟩
           cases fu_l7 with
           | zero => cases h
           | succ fu_l7 =>
            refine ⟨fu_l7, rfl, ?_⟩
            rw [rText_l7] at h
            refine W_seq ?_
            refine Vrs hT [0, 1] ⟨[(0, kU l0), (1, kH 0), (5, kI i5_2), (6, kU (l1.getD i5_2.toNat 0)), (7, kB p7_139), (8, kH 1), (9, kI i9_192), (54, kB (decide (i9_192 < (([32, 39, 40, 41, 43, 44, 45, 46, 47, 58, 61, 63].length : Nat) : Int))))], [], [ob 5 l1, nb 5 [32, 39, 40, 41, 43, 44, 45, 46, 47, 58, 61, 63]]⟩ ?_
            refine Vi ((decide (i9_192 < (([32, 39, 40, 41, 43, 44, 45, 46, 47, 58, 61, 63].length : Nat) : Int)))) (fun g42 => ?_) (fun g42 => ?_)
            ·replace h := bif_t h g42
             refine Vc [] [0, 1] ⟨[(0, kU l0), (1, kH 0), (5, kI i5_2), (6, kU (l1.getD i5_2.toNat 0)), (7, kB p7_139), (8, kH 1), (9, kI i9_192)], [], [ob 5 l1, nb 5 [32, 39, 40, 41, 43, 44, 45, 46, 47, 58, 61, 63]]⟩ (W_skip ?_)
             refine W_seq ?_
             refine W_block ?_
             rcases Bool.eq_false_or_eq_true p7_139 with g36 | g36
             ·replace h := bif_t h g36
              refine Vg hT fN [(1, true)] [] [0, 1] ⟨[(0, kU l0), (1, kH 0), (5, kI i5_2), (6, kU (l1.getD i5_2.toNat 0)), (7, kB true), (8, kH 1), (9, kI i9_192)], [], [ob 5 l1, nb 5 [32, 39, 40, 41, 43, 44, 45, 46, 47, 58, 61, 63]]⟩ (aP g36 aN) ?_
              obtain ⟨g37, h⟩ := gd_some h
              refine Vg hT fN [] [] [0, 1] (rText_l7_E l0 l1 i5_2 true (i9_192 + 1)) (aP g37 aN) ?_
              exact ⟨_, _, rfl, h⟩
             ·replace h := bif_f h g36
              obtain ⟨g38, g39, h⟩ := gd2 h
              refine Vg hT fN [(1, false)] [] [0, 1] ⟨[(0, kU l0), (1, kH 0), (5, kI i5_2), (6, kU (l1.getD i5_2.toNat 0)), (7, kB ((l1.getD i5_2.toNat 0) == ([32, 39, 40, 41, 43, 44, 45, 46, 47, 58, 61, 63].getD i9_192.toNat 0))), (8, kH 1), (9, kI i9_192)], [], [ob 5 l1, nb 5 [32, 39, 40, 41, 43, 44, 45, 46, 47, 58, 61, 63]]⟩ (aP g36 (aP g38 (aP g39 aN))) ?_
              obtain ⟨g40, h⟩ := gd_some h
              refine Vg hT fN [] [] [0, 1] (rText_l7_E l0 l1 i5_2 ((l1.getD i5_2.toNat 0) == ([32, 39, 40, 41, 43, 44, 45, 46, 47, 58, 61, 63].getD i9_192.toNat 0)) (i9_192 + 1)) (aP g40 aN) ?_
              exact ⟨_, _, rfl, h⟩
            ·replace h := bif_f h g42
             refine Vc [] [0] ⟨[(0, kU l0), (1, kH 0), (5, kI i5_2), (7, kB p7_139)], [], [ob 5 l1]⟩ (W_exit ?_)
             refine Vrs hT [0] ⟨[(0, kU l0), (1, kH 0), (5, kI i5_2), (67, kB (!p7_139))], [], [ob 5 l1]⟩ ?_
             refine Vi ((!p7_139)) (fun g41 => ?_) (fun g41 => ?_)
             ·replace h := bif_t h g41
              refine Vrs hT [] ⟨[(4, kB false)], [], []⟩ ?_
              refine Vc [] [] (rText_R false) (W_ret ?_)
              exact ⟨.inl rfl, by cases h; rfl⟩
             ·replace h := bif_f h g41
              refine Vc [] [0] (rText_j1_E l0 l1 i5_2) (W_skip ?_)
              exact ⟨rfl, h⟩
       ·replace h := bif_f h g5
        rcases Bool.eq_false_or_eq_true (decide ((65 : UInt8) ≤ (l1.getD i5_2.toNat 0))) with g43 | g43
        ·replace h := bif_t h g43
         rcases Bool.eq_false_or_eq_true (decide ((l1.getD i5_2.toNat 0) ≤ (90 : UInt8))) with g44 | g44
         ·replace h := bif_t h g44
          refine Vg hT fN [(2, false), (9, true), (14, true)] [] [0] ⟨[(0, kU l0), (1, kH 0), (5, kI i5_2), (6, kU (l1.getD i5_2.toNat 0)), (7, kB true)], [], [ob 5 l1]⟩ (aP g5 (aP g43 (aP g44 aN))) ?_
          refine Vrs hT [0, 1] ⟨[(0, kU l0), (1, kH 0), (5, kI i5_2), (6, kU (l1.getD i5_2.toNat 0)), (7, kB true), (8, kH 1)], [], [ob 5 l1, ⟨.row, 5, 1, 12, .b [32, 39, 40, 41, 43, 44, 45, 46, 47, 58, 61, 63]⟩]⟩ ?_
          refine W_seq ?_
          refine Vrs hT [0, 1] ⟨[(0, kU l0), (1, kH 0), (5, kI i5_2), (6, kU (l1.getD i5_2.toNat 0)), (7, kB true), (8, kH 1), (9, kI 0)], [], [ob 5 l1, ⟨.row, 5, 1, 12, .b [32, 39, 40, 41, 43, 44, 45, 46, 47, 58, 61, 63]⟩]⟩ ?_
          refine W_block ?_
          refine Vc [] [0, 1] (rText_l8_E l0 l1 i5_2 0) (W_lp ((rText_l8_P n l0 l1 i5_2 (rText_l1 n l0 l1 fu_l1) r)) n ⟨_, rfl, h⟩ ?_)
          rintro fu_l8 _ ⟨i9_193, rfl, h⟩
          cases fu_l8 with
          | zero => cases h
          | succ fu_l8 =>
           refine ⟨fu_l8, rfl, ?_⟩
           rw [rText_l8] at h
           refine W_seq ?_
           refine Vrs hT [0, 1] ⟨[(0, kU l0), (1, kH 0), (5, kI i5_2), (6, kU (l1.getD i5_2.toNat 0)), (7, kB true), (8, kH 1), (9, kI i9_193), (54, kB (decide (i9_193 < (([32, 39, 40, 41, 43, 44, 45, 46, 47, 58, 61, 63].length : Nat) : Int))))], [], [ob 5 l1, nb 5 [32, 39, 40, 41, 43, 44, 45, 46, 47, 58, 61, 63]]⟩ ?_
           refine Vi ((decide (i9_193 < (([32, 39, 40, 41, 43, 44, 45, 46, 47, 58, 61, 63].length : Nat) : Int)))) (fun g46 => ?_) (fun g46 => ?_)
           ·replace h := bif_t h g46
            refine W_skip ?_
            refine W_seq ?_
            refine W_block ?_
            refine Vr hT [0, 1] ⟨[(0, kU l0), (1, kH 0), (5, kI i5_2), (6, kU (l1.getD i5_2.toNat 0)), (7, kB true), (8, kH 1), (9, kI i9_193)], [], [ob 5 l1, nb 5 [32, 39, 40, 41, 43, 44, 45, 46, 47, 58, 61, 63]]⟩ ?_
            obtain ⟨g45, h⟩ := gd_some h
            refine Vg hT fN [] [] [0, 1] (rText_l8_E l0 l1 i5_2 (i9_193 + 1)) (aP g45 aN) ?_
            exact ⟨_, rfl, h⟩
           ·replace h := bif_f h g46
            refine Vc [] [0] ⟨[(0, kU l0), (1, kH 0), (5, kI i5_2), (7, kB true)], [], [ob 5 l1]⟩ (W_exit ?_)
            refine Vrs hT [0] ⟨[(0, kU l0), (1, kH 0), (5, kI i5_2), (67, kB false)], [], [ob 5 l1]⟩ ?_
            refine Vi (false) (fun hb => by cases hb) (fun _ => ?_)
            refine Vc [] [0] (rText_j1_E l0 l1 i5_2) (W_skip ?_)
            exact ⟨rfl, h⟩
         ·replace h := bif_f h g44
          rcases Bool.eq_false_or_eq_true (decide ((48 : UInt8) ≤ (l1.getD i5_2.toNat 0))) with g47 | g47
          ·replace h := bif_t h g47
           refine Vg hT fN [(2, false), (9, true), (14, false), (17, true)] [] [0] ⟨[(0, kU l0), (1, kH 0), (5, kI i5_2), (6, kU (l1.getD i5_2.toNat 0)), (7, kB (decide ((l1.getD i5_2.toNat 0) ≤ (57 : UInt8))))], [], [ob 5 l1]⟩ (aP g5 (aP g43 (aP g44 (aP g47 aN)))) ?_
           refine Vrs hT [0, 1] ⟨[(0, kU l0), (1, kH 0), (5, kI i5_2), (6, kU (l1.getD i5_2.toNat 0)), (7, kB (decide ((l1.getD i5_2.toNat 0) ≤ (57 : UInt8)))), (8, kH 1)], [], [ob 5 l1, ⟨.row, 5, 1, 12, .b [32, 39, 40, 41, 43, 44, 45, 46, 47, 58, 61, 63]⟩]⟩ ?_
           refine W_seq ?_
           refine Vrs hT [0, 1] ⟨[(0, kU l0), (1, kH 0), (5, kI i5_2), (6, kU (l1.getD i5_2.toNat 0)), (7, kB (decide ((l1.getD i5_2.toNat 0) ≤ (57 : UInt8)))), (8, kH 1), (9, kI 0)], [], [ob 5 l1, ⟨.row, 5, 1, 12, .b [32, 39, 40, 41, 43, 44, 45, 46, 47, 58, 61, 63]⟩]⟩ ?_
           refine W_block ?_
           refine Vc [] [0, 1] (rText_l9_E l0 l1 i5_2 (decide ((l1.getD i5_2.toNat 0) ≤ (57 : UInt8))) 0) (W_lp ((rText_l9_P n l0 l1 i5_2 (rText_l1 n l0 l1 fu_l1) r)) n ⟨_, _, rfl, h⟩ ?_)
           rintro fu_l9 _ ⟨p7_140, i9_194, rfl, h⟩
           cases fu_l9 with
           | zero => cases h
           | succ fu_l9 =>
            refine ⟨fu_l9, rfl, ?_⟩
            rw [rText_l9] at h
            refine W_seq ?_
            refine Vrs hT [0, 1] ⟨[(0, kU l0), (1, kH 0), (5, kI i5_2), (6, kU (l1.getD i5_2.toNat 0)), (7, kB p7_140), (8, kH 1), (9, kI i9_194), (54, kB (decide (i9_194 < (([32, 39, 40, 41, 43, 44, 45, 46, 47, 58, 61, 63].length : Nat) : Int))))], [], [ob 5 l1, nb 5 [32, 39, 40, 41, 43, 44, 45, 46, 47, 58, 61, 63]]⟩ ?_
            refine Vi ((decide (i9_194 < (([32, 39, 40, 41, 43, 44, 45, 46, 47, 58, 61, 63].length : Nat) : Int)))) (fun g54 => ?_) (fun g54 => ?_)
            ·replace h := bif_t h g54
             refine Vc [] [0, 1] ⟨[(0, kU l0), (1, kH 0), (5, kI i5_2), (6, kU (l1.getD i5_2.toNat 0)), (7, kB p7_140), (8, kH 1), (9, kI i9_194)], [], [ob 5 l1, nb 5 [32, 39, 40, 41, 43, 44, 45, 46, 47, 58, 61, 63]]⟩ (W_skip ?_)
             refine W_seq ?_
             refine W_block ?_
             rcases Bool.eq_false_or_eq_true p7_140 with g48 | g48
             ·replace h := bif_t h g48
              refine Vg hT fN [(1, true)] [] [0, 1] ⟨[(0, kU l0), (1, kH 0), (5, kI i5_2), (6, kU (l1.getD i5_2.toNat 0)), (7, kB true), (8, kH 1), (9, kI i9_194)], [], [ob 5 l1, nb 5 [32, 39, 40, 41, 43, 44, 45, 46, 47, 58, 61, 63]]⟩ (aP g48 aN) ?_
              obtain ⟨g49, h⟩ := gd_some h
              refine Vg hT fN [] [] [0, 1] (rText_l9_E l0 l1 i5_2 true (i9_194 + 1)) (aP g49 aN) ?_
              exact ⟨_, _, rfl, h⟩
             ·replace h := bif_f h g48
              obtain ⟨g50, g51, h⟩ := gd2 h
              refine Vg hT fN [(1, false)] [] [0, 1] ⟨[(0, kU l0), (1, kH 0), (5, kI i5_2), (6, kU (l1.getD i5_2.toNat 0)), (7, kB ((l1.getD i5_2.toNat 0) == ([32, 39, 40, 41, 43, 44, 45, 46, 47, 58, 61, 63].getD i9_194.toNat 0))), (8, kH 1), (9, kI i9_194)], [], [ob 5 l1, nb 5 [32, 39, 40, 41, 43, 44, 45, 46, 47, 58, 61, 63]]⟩ (aP g48 (aP g50 (aP g51 aN))) ?_
              obtain ⟨g52, h⟩ := gd_some h
              refine Vg hT fN [] [] [0, 1] (rText_l9_E l0 l1 i5_2 ((l1.getD i5_2.toNat 0) == ([32, 39, 40, 41, 43, 44, 45, 46, 47, 58, 61, 63].getD i9_194.toNat 0)) (i9_194 + 1)) (aP g52 aN) ?_
              exact ⟨_, _, rfl, h⟩
            ·replace h := bif_f h g54
             refine Vc [] [0] ⟨[(0, kU l0), (1, kH 0), (5, kI i5_2), (7, kB p7_140)], [], [ob 5 l1]⟩ (W_exit ?_)
             refine Vrs hT [0] ⟨[(0, kU l0), (1, kH 0), (5, kI i5_2), (67, kB (!p7_140))], [], [ob 5 l1]⟩ ?_
             refine Vi ((!p7_140)) (fun g53 => ?_) (fun g53 => ?_)
             ·replace h := bif_t h g53
              refine Vrs hT [] ⟨[(4, kB false)], [], []⟩ ?_
              refine Vc [] [] (rText_R false) (W_ret ?_)
              exact ⟨.inl rfl, by cases h; rfl⟩
             ·replace h := bif_f h g53
              refine Vc [] [0] (rText_j1_E l0 l1 i5_2) (W_skip ?_)
              exact ⟨rfl, h⟩
          ·replace h := bif_f h g47
           refine Vg hT fN [(2, false), (9, true), (14, false), (17, false)] [] [0] ⟨[(0, kU l0), (1, kH 0), (5, kI i5_2), (6, kU (l1.getD i5_2.toNat 0)), (7, kB false)], [], [ob 5 l1]⟩ (aP g5 (aP g43 (aP g44 (aP g47 aN)))) ?_
           refine Vrs hT [0, 1] ⟨[(0, kU l0), (1, kH 0), (5, kI i5_2), (6, kU (l1.getD i5_2.toNat 0)), (7, kB false), (8, kH 1)], [], [ob 5 l1, ⟨.row, 5, 1, 12, .b [32, 39, 40, 41, 43, 44, 45, 46, 47, 58, 61, 63]⟩]⟩ ?_
           refine W_seq ?_
           refine Vrs hT [0, 1] ⟨[(0, kU l0), (1, kH 0), (5, kI i5_2), (6, kU (l1.getD i5_2.toNat 0)), (7, kB false), (8, kH 1), (9, kI 0)], [], [ob 5 l1, ⟨.row, 5, 1, 12, .b [32, 39, 40, 41, 43, 44, 45, 46, 47, 58, 61, 63]⟩]⟩ ?_
           refine W_block ?_
           refine Vc [] [0, 1] (rText_l10_E l0 l1 i5_2 false 0) (W_lp ((rText_l10_P n l0 l1 i5_2 (rText_l1 n l0 l1 fu_l1) r)) n ⟨_, _, rfl, h⟩ ?_)
           rintro fu_l10 _ ⟨p7_141, i9_195, rfl, h⟩
           cases fu_l10 with
           | zero => cases h
           | succ fu_l10 =>
            refine ⟨fu_l10, rfl, ?_⟩
            rw [rText_l10] at h
            refine W_seq ?_
            refine Vrs hT [0, 1] ⟨[(0, kU l0), (1, kH 0), (5, kI i5_2), (6, kU (l1.getD i5_2.toNat 0)), (7, kB p7_141), (8, kH 1), (9, kI i9_195), (54, kB (decide (i9_195 < (([32, 39, 40, 41, 43, 44, 45, 46, 47, 58, 61, 63].length : Nat) : Int))))], [], [ob 5 l1, nb 5 [32, 39, 40, 41, 43, 44, 45, 46, 47, 58, 61, 63]]⟩ ?_
            refine Vi ((decide (i9_195 < (([32, 39, 40, 41, 43, 44, 45, 46, 47, 58, 61, 63].length : Nat) : Int)))) (fun g61 => ?_) (fun g61 => ?_)
            ·replace h := bif_t h g61
             refine Vc [] [0, 1] ⟨[(0, kU l0), (1, kH 0), (5, kI i5_2), (6, kU (l1.getD i5_2.toNat 0)), (7, kB p7_141), (8, kH 1), (9, kI i9_195)], [], [ob 5 l1, nb 5 [32, 39, 40, 41, 43, 44, 45, 46, 47, 58, 61, 63]]⟩ (W_skip ?_)
             refine W_seq ?_
             refine W_block ?_
             rcases Bool.eq_false_or_eq_true p7_141 with g55 | g55
             ·replace h := bif_t h g55
              refine Vg hT fN [(1, true)] [] [0, 1] ⟨[(0, kU l0), (1, kH 0), (5, kI i5_2), (6, kU (l1.getD i5_2.toNat 0)), (7, kB true), (8, kH 1), (9, kI i9_195)], [], [ob 5 l1, nb 5 [32, 39, 40, 41, 43, 44, 45, 46, 47, 58, 61, 63]]⟩ (aP g55 aN) ?_
              obtain ⟨g56, h⟩ := gd_some h
              refine Vg hT fN [] [] [0, 1] (rText_l10_E l0 l1 i5_2 true (i9_195 + 1)) (aP g56 aN) ?_
              exact ⟨_, _, rfl, h⟩
             ·replace h := bif_f h g55
              obtain ⟨g57, g58, h⟩ := gd2 h
              refine Vg hT fN [(1, false)] [] [0, 1] ⟨[(0, kU l0), (1, kH 0), (5, kI i5_2), (6, kU (l1.getD i5_2.toNat 0)), (7, kB ((l1.getD i5_2.toNat 0) == ([32, 39, 40, 41, 43, 44, 45, 46, 47, 58, 61, 63].getD i9_195.toNat 0))), (8, kH 1), (9, kI i9_195)], [], [ob 5 l1, nb 5 [32, 39, 40, 41, 43, 44, 45, 46, 47, 58, 61, 63]]⟩ (aP g55 (aP g57 (aP g58 aN))) ?_
              obtain ⟨g59, h⟩ := gd_some h
              refine Vg hT fN [] [] [0, 1] (rText_l10_E l0 l1 i5_2 ((l1.getD i5_2.toNat 0) == ([32, 39, 40, 41, 43, 44, 45, 46, 47, 58, 61, 63].getD i9_195.toNat 0)) (i9_195 + 1)) (aP g59 aN) ?_
              exact ⟨_, _, rfl, h⟩
            ·replace h := bif_f h g61
             refine Vc [] [0] ⟨[(0, kU l0), (1, kH 0), (5, kI i5_2), (7, kB p7_141)], [], [ob 5 l1]⟩ (W_exit ?_)
             refine Vrs hT [0] ⟨[(0, kU l0), (1, kH 0), (5, kI i5_2), (67, kB (!p7_141))], [], [ob 5 l1]⟩ ?_
             refine Vi ((!p7_141)) (fun g60 => ?_) (fun g60 => ?_)
             ·replace h := bif_t h g60
              refine Vrs hT [] ⟨[(4, kB false)], [], []⟩ ?_
              refine Vc [] [] (rText_R false) (W_ret ?_)
              exact ⟨.inl rfl, by cases h; rfl⟩
             ·replace h := bif_f h g60
              refine Vc [] [0] (rText_j1_E l0 l1 i5_2) (W_skip ?_)
              exact ⟨rfl, h⟩
        ·replace h := bif_f h g43
         rcases Bool.eq_false_or_eq_true (decide ((48 : UInt8) ≤ (l1.getD i5_2.toNat 0))) with g62 | g62
         ·replace h := bif_t h g62
          refine Vg hT fN [(2, false), (9, false), (17, true)] [] [0] ⟨[(0, kU l0), (1, kH 0), (5, kI i5_2), (6, kU (l1.getD i5_2.toNat 0)), (7, kB (decide ((l1.getD i5_2.toNat 0) ≤ (57 : UInt8))))], [], [ob 5 l1]⟩ (aP g5 (aP g43 (aP g62 aN))) ?_
          refine Vrs hT [0, 1] ⟨[(0, kU l0), (1, kH 0), (5, kI i5_2), (6, kU (l1.getD i5_2.toNat 0)), (7, kB (decide ((l1.getD i5_2.toNat 0) ≤ (57 : UInt8)))), (8, kH 1)], [], [ob 5 l1, ⟨.row, 5, 1, 12, .b [32, 39, 40, 41, 43, 44, 45, 46, 47, 58, 61, 63]⟩]⟩ ?_
          refine W_seq ?_
          refine Vrs hT [0, 1] ⟨[(0, kU l0), (1, kH 0), (5, kI i5_2), (6, kU (l1.getD i5_2.toNat 0)), (7, kB (decide ((l1.getD i5_2.toNat 0) ≤ (57 : UInt8)))), (8, kH 1), (9, kI 0)], [], [ob 5 l1, ⟨.row, 5, 1, 12, .b [32, 39, 40, 41, 43, 44, 45, 46, 47, 58, 61, 63]⟩]⟩ ?_
          refine W_block ?_
          refine Vc [] [0, 1] (rText_l11_E l0 l1 i5_2 (decide ((l1.getD i5_2.toNat 0) ≤ (57 : UInt8))) 0) (W_lp ((rText_l11_P n l0 l1 i5_2 (rText_l1 n l0 l1 fu_l1) r)) n ⟨_, _, rfl, h⟩ ?_)
          rintro fu_l11 _ ⟨p7_142, i9_196, rfl, h⟩
          cases fu_l11 with
          | zero => cases h
          | succ fu_l11 =>
           refine ⟨fu_l11, rfl, ?_⟩
           rw [rText_l11] at h
           refine W_seq ?_
           refine Vrs hT [0, 1] ⟨[(0, kU l0), (1, kH 0), (5, kI i5_2), (6, kU (l1.getD i5_2.toNat 0)), (7, kB p7_142), (8, kH 1), (9, kI i9_196), (54, kB (decide (i9_196 < (([32, 39, 40, 41, 43, 44, 45, 46, 47, 58, 61, 63].length : Nat) : Int))))], [], [ob 5 l1, nb 5 [32, 39, 40, 41, 43, 44, 45, 46, 47, 58, 61, 63]]⟩ ?_
           refine Vi ((decide (i9_196 < (([32, 39, 40, 41, 43, 44, 45, 46, 47, 58, 61, 63].length : Nat) : Int)))) (fun g69 => ?_) (fun g69 => ?_)
           ·replace h := bif_t h g69
            refine Vc [] [0, 1] ⟨[(0, kU l0), (1, kH 0), (5, kI i5_2), (6, kU (l1.getD i5_2.toNat 0)), (7, kB p7_142), (8, kH 1), (9, kI i9_196)], [], [ob 5 l1, nb 5 [32, 39, 40, 41, 43, 44, 45, 46, 47, 58, 61, 63]]⟩ (W_skip ?_)
            refine W_seq ?_
            refine W_block ?_
            rcases Bool.eq_false_or_eq_true p7_142 with g63 | g63
            ·replace h := bif_t h g63
             refine Vg hT fN [(1, true)] [] [0, 1] ⟨[(0, kU l0), (1, kH 0), (5, kI i5_2), (6, kU (l1.getD i5_2.toNat 0)), (7, kB true), (8, kH 1), (9, kI i9_196)], [], [ob 5 l1, nb 5 [32, 39, 40, 41, 43, 44, 45, 46, 47, 58, 61, 63]]⟩ (aP g63 aN) ?_
             obtain ⟨g64, h⟩ := gd_some h
             refine Vg hT fN [] [] [0, 1] (rText_l11_E l0 l1 i5_2 true (i9_196 + 1)) (aP g64 aN) ?_
             exact ⟨_, _, rfl, h⟩
            ·replace h := bif_f h g63
             obtain ⟨g65, g66, h⟩ := gd2 h
             refine Vg hT fN [(1, false)] [] [0, 1] ⟨[(0, kU l0), (1, kH 0), (5, kI i5_2), (6, kU (l1.getD i5_2.toNat 0)), (7, kB ((l1.getD i5_2.toNat 0) == ([32, 39, 40, 41, 43, 44, 45, 46, 47, 58, 61, 63].getD i9_196.toNat 0))), (8, kH 1), (9, kI i9_196)], [], [ob 5 l1, nb 5 [32, 39, 40, 41, 43, 44, 45, 46, 47, 58, 61, 63]]⟩ (aP g63 (aP g65 (aP g66 aN))) ?_
             obtain ⟨g67, h⟩ := gd_some h
             refine Vg hT fN [] [] [0, 1] (rText_l11_E l0 l1 i5_2 ((l1.getD i5_2.toNat 0) == ([32, 39, 40, 41, 43, 44, 45, 46, 47, 58, 61, 63].getD i9_196.toNat 0)) (i9_196 + 1)) (aP g67 aN) ?_
             exact ⟨_, _, rfl, h⟩
           ·replace h := bif_f h g69
            refine Vc [] [0] ⟨[(0, kU l0), (1, kH 0), (5, kI i5_2), (7, kB p7_142)], [], [ob 5 l1]⟩ (W_exit ?_)
            refine Vrs hT [0] ⟨[(0, kU l0), (1, kH 0), (5, kI i5_2), (67, kB (!p7_142))], [], [ob 5 l1]⟩ ?_
            refine Vi ((!p7_142)) (fun g68 => ?_) (fun g68 => ?_)
            ·replace h := bif_t h g68
             refine Vrs hT [] ⟨[(4, kB false)], [], []⟩ ?_
             refine Vc [] [] (rText_R false) (W_ret ?_)
             exact ⟨.inl rfl, by cases h; rfl⟩
            ·replace h := bif_f h g68
             refine Vc [] [0] (rText_j1_E l0 l1 i5_2) (W_skip ?_)
             exact ⟨rfl, h⟩
         ·replace h := bif_f h g62
          refine Vg hT fN [(2, false), (9, false), (17, false)] [] [0] ⟨[(0, kU l0), (1, kH 0), (5, kI i5_2), (6, kU (l1.getD i5_2.toNat 0)), (7, kB false)], [], [ob 5 l1]⟩ (aP g5 (aP g43 (aP g62 aN))) ?_
          refine Vrs hT [0, 1] ⟨[(0, kU l0), (1, kH 0), (5, kI i5_2), (6, kU (l1.getD i5_2.toNat 0)), (7, kB false), (8, kH 1)], [], [ob 5 l1, ⟨.row, 5, 1, 12, .b [32, 39, 40, 41, 43, 44, 45, 46, 47, 58, 61, 63]⟩]⟩ ?_
          refine W_seq ?_
          refine Vrs hT [0, 1] ⟨[(0, kU l0), (1, kH 0), (5, kI i5_2), (6, kU (l1.getD i5_2.toNat 0)), (7, kB false), (8, kH 1), (9, kI 0)], [], [ob 5 l1, ⟨.row, 5, 1, 12, .b [32, 39, 40, 41, 43, 44, 45, 46, 47, 58, 61, 63]⟩]⟩ ?_
          refine W_block ?_
          refine Vc [] [0, 1] (rText_l12_E l0 l1 i5_2 false 0) (W_lp ((rText_l12_P n l0 l1 i5_2 (rText_l1 n l0 l1 fu_l1) r)) n ⟨_, _, rfl, h⟩ ?_)
          rintro fu_l12 _ ⟨p7_143, i9_197, rfl, h⟩
          cases fu_l12 with
          | zero => cases h
          | succ fu_l12 =>
           refine ⟨fu_l12, rfl, ?_⟩
           rw [rText_l12] at h
           refine W_seq ?_
           refine Vrs hT [0, 1] ⟨[(0, kU l0), (1, kH 0), (5, kI i5_2), (6, kU (l1.getD i5_2.toNat 0)), (7, kB p7_143), (8, kH 1), (9, kI i9_197), (54, kB (decide (i9_197 < (([32, 39, 40, 41, 43, 44, 45, 46, 47, 58, 61, 63].length : Nat) : Int))))], [], [ob 5 l1, nb 5 [32, 39, 40, 41, 43, 44, 45, 46, 47, 58, 61, 63]]⟩ ?_
           refine Vi ((decide (i9_197 < (([32, 39, 40, 41, 43, 44, 45, 46, 47, 58, 61, 63].length : Nat) : Int)))) (fun g76 => ?_) (fun g76 => ?_)
           ·replace h := bif_t h g76
            refine Vc [] [0, 1] ⟨[(0, kU l0), (1, kH 0), (5, kI i5_2), (6, kU (l1.getD i5_2.toNat 0)), (7, kB p7_143), (8, kH 1), (9, kI i9_197)], [], [ob 5 l1, nb 5 [32, 39, 40, 41, 43, 44, 45, 46, 47, 58, 61, 63]]⟩ (W_skip ?_)
            refine W_seq ?_
            refine W_block ?_
            rcases Bool.eq_false_or_eq_true p7_143 with g70 | g70
            ·replace h := bif_t h g70
             refine Vg hT fN [(1, true)] [] [0, 1] ⟨[(0, kU l0), (1, kH 0), (5, kI i5_2), (6, kU (l1.getD i5_2.toNat 0)), (7, kB true), (8, kH 1), (9, kI i9_197)], [], [ob 5 l1, nb 5 [32, 39, 40, 41, 43, 44, 45, 46, 47, 58, 61, 63]]⟩ (aP g70 aN) ?_
             obtain ⟨g71, h⟩ := gd_some h
             refine Vg hT fN [] [] [0, 1] (rText_l12_E l0 l1 i5_2 true (i9_197 + 1)) (aP g71 aN) ?_
             exact ⟨_, _, rfl, h⟩
            ·replace h := bif_f h g70
             obtain ⟨g72, g73, h⟩ := gd2 h
             refine Vg hT fN [(1, false)] [] [0, 1] ⟨[(0, kU l0), (1, kH 0), (5, kI i5_2), (6, kU (l1.getD i5_2.toNat 0)), (7, kB ((l1.getD i5_2.toNat 0) == ([32, 39, 40, 41, 43, 44, 45, 46, 47, 58, 61, 63].getD i9_197.toNat 0))), (8, kH 1), (9, kI i9_197)], [], [ob 5 l1, nb 5 [32, 39, 40, 41, 43, 44, 45, 46, 47, 58, 61, 63]]⟩ (aP g70 (aP g72 (aP g73 aN))) ?_
             obtain ⟨g74, h⟩ := gd_some h
             refine Vg hT fN [] [] [0, 1] (rText_l12_E l0 l1 i5_2 ((l1.getD i5_2.toNat 0) == ([32, 39, 40, 41, 43, 44, 45, 46, 47, 58, 61, 63].getD i9_197.toNat 0)) (i9_197 + 1)) (aP g74 aN) ?_
             exact ⟨_, _, rfl, h⟩
           ·replace h := bif_f h g76
            refine Vc [] [0] ⟨[(0, kU l0), (1, kH 0), (5, kI i5_2), (7, kB p7_143)], [], [ob 5 l1]⟩ (W_exit ?_)
            refine Vrs hT [0] ⟨[(0, kU l0), (1, kH 0), (5, kI i5_2), (67, kB (!p7_143))], [], [ob 5 l1]⟩ ?_
            refine Vi ((!p7_143)) (fun g75 => ?_) (fun g75 => ?_)
            ·replace h := bif_t h g75
             refine Vrs hT [] ⟨[(4, kB false)], [], []⟩ ?_
             refine Vc [] [] (rText_R false) (W_ret ?_)
             exact ⟨.inl rfl, by cases h; rfl⟩
            ·replace h := bif_f h g75
             refine Vc [] [0] (rText_j1_E l0 l1 i5_2) (W_skip ?_)
             exact ⟨rfl, h⟩
      ·replace h := bif_f h g77
       refine Vc [] [0] (rText_j1_E l0 l1 i5_2) (W_skip ?_)
       exact ⟨rfl, h⟩
   ·replace h := bif_f h g79
    refine Vc [] [] ⟨[], [], []⟩ (W_exit ?_)
    refine Vrs hT [] ⟨[(4, kB true)], [], []⟩ ?_
    refine Vc [] [] (rText_R true) (W_ret ?_)
    exact ⟨.inl rfl, by cases h; rfl⟩
def lTexts_R (r : Bool) : S := ⟨[(4, kB r)], [], []⟩
def lTexts_ct (n : Nat) (r : Bool) : Ct := ctc rU8.rd fun _ l0 => ctc (rB 5).rd fun _ l1 => ct0 fun H => ([lTexts n l0 l1 = some r], shA H.length (kB r), shH H.length [])
theorem lTexts_ok (n : Nat) (r : Bool) : FnOk Try.prog Tr 8 (lTexts_ct n r) := by
 refine fnok Try.func8 ?_
 refine HO_c rU8 fun l0 _ => HO_c (rB 5) fun l1 _ => HO_0 tabO_tb (lTexts_R r) [.tmp 4] [] 52 Try.func8 fun w hG h => ?_
 unfold lTexts at h
 have hT := tabO_tb
 refine Vrs hT [0] ⟨[(0, kU l0), (1, kH 0)], [], [ob 5 l1]⟩ ?_
 obtain ⟨r8, g1, h⟩ := bind_some' h
 refine Vgs hT (fT 0 (pup_ok n r8) fN) [] [] [0] ⟨[(0, kU l0), (1, kH 0), (5, kB r8)], [], [ob 5 l1]⟩ (aP g1 aN) ?_
 refine W_seq ?_
 refine Vrs hT [0] ⟨[(0, kU l0), (1, kH 0), (5, kB r8), (11, kB (decide ((2000 : Int) < ((l1.length : Nat) : Int))))], [], [ob 5 l1]⟩ ?_
 refine Vi ((decide ((2000 : Int) < ((l1.length : Nat) : Int)))) (fun g32 => ?_) (fun g32 => ?_)
 ·replace h := bif_t h g32
  refine Vrs hT [] ⟨[(4, kB r8)], [], []⟩ ?_
  refine Vc [] [] (lTexts_R r8) (W_ret ?_)
  exact ⟨.inl rfl, by cases h; rfl⟩
 ·replace h := bif_f h g32
  refine W_skip ?_
  obtain ⟨r15, g2, h⟩ := bind_some' h
  refine Vgs hT (fT 2 (pText_ok n r15) fN) [] [] [0] ⟨[(0, kU l0), (1, kH 0), (5, kB r8), (6, kE 31 r15)], [], [ob 5 l1]⟩ (aP g2 aN) ?_
  refine W_seq ?_
  refine W_seq ?_
  rcases Bool.eq_false_or_eq_true (l0 != 12) with g3 | g3
  ·replace h := bif_t h g3
   rcases Bool.eq_false_or_eq_true (l0 != 19) with g4 | g4
   ·replace h := bif_t h g4
    refine Vg hT fN [(2, true), (6, true)] [] [0] ⟨[(0, kU l0), (1, kH 0), (5, kB r8), (6, kE 31 r15), (25, kB (l0 != 22))], [], [ob 5 l1]⟩ (aP g3 (aP g4 aN)) ?_
    refine Vi ((l0 != 22)) (fun g15 => ?_) (fun g15 => ?_)
    ·replace h := bif_t h g15
     refine W_seq ?_
     rcases Bool.eq_false_or_eq_true r8 with g5 | g5
     ·replace h := bif_t h g5
      obtain ⟨g6, h⟩ := gd_some h
      refine Vg hT fN [(1, true)] [] [] ⟨[(4, kB (r15 == (some 1)))], [], []⟩ (aP g5 (aP g6 aN)) ?_
      refine Vc [] [] (lTexts_R (r15 == (some 1))) (W_ret ?_)
      exact ⟨.inl rfl, by cases h; rfl⟩
     ·replace h := bif_f h g5
      refine Vg hT fN [(1, false)] [] [] ⟨[(4, kB false)], [], []⟩ (aP g5 aN) ?_
      refine Vc [] [] (lTexts_R false) (W_ret ?_)
      exact ⟨.inl rfl, by cases h; rfl⟩
    ·replace h := bif_f h g15
     refine W_skip ?_
     obtain ⟨r34, g7, h⟩ := bind_some' h
     refine Vgs hT (fT 2 (rText_ok n r34) fN) [] [] [] ⟨[(5, kB r8), (6, kE 31 r15), (7, kB r34)], [], []⟩ (aP g7 aN) ?_
     refine W_seq ?_
     rcases Bool.eq_false_or_eq_true r8 with g8 | g8
     ·replace h := bif_t h g8
      rcases Bool.eq_false_or_eq_true r34 with g9 | g9
      ·replace h := bif_t h g9
       rcases Bool.eq_false_or_eq_true ((r15).isNone) with g10 | g10
       ·replace h := bif_t h g10
        refine Vg hT fN [(1, true), (3, true), (7, true)] [] [] ⟨[(4, kB true)], [], []⟩ (aP g8 (aP g9 (aP g10 aN))) ?_
        refine Vc [] [] (lTexts_R true) (W_ret ?_)
        exact ⟨.inl rfl, by cases h; rfl⟩
       ·replace h := bif_f h g10
        rcases Bool.eq_false_or_eq_true (!r34) with g11 | g11
        ·replace h := bif_t h g11
         obtain ⟨g12, h⟩ := gd_some h
         refine Vg hT fN [(1, true), (3, true), (7, false), (10, true)] [] [] ⟨[(4, kB (r15 == (some 2)))], [], []⟩ (aP g8 (aP g9 (aP g10 (aP g11 (aP g12 aN))))) ?_
         refine Vc [] [] (lTexts_R (r15 == (some 2))) (W_ret ?_)
         exact ⟨.inl rfl, by cases h; rfl⟩
        ·replace h := bif_f h g11
         refine Vg hT fN [(1, true), (3, true), (7, false), (10, false)] [] [] ⟨[(4, kB false)], [], []⟩ (aP g8 (aP g9 (aP g10 (aP g11 aN)))) ?_
         refine Vc [] [] (lTexts_R false) (W_ret ?_)
         exact ⟨.inl rfl, by cases h; rfl⟩
      ·replace h := bif_f h g9
       rcases Bool.eq_false_or_eq_true (!r34) with g13 | g13
       ·replace h := bif_t h g13
        obtain ⟨g14, h⟩ := gd_some h
        refine Vg hT fN [(1, true), (3, false), (10, true)] [] [] ⟨[(4, kB (r15 == (some 2)))], [], []⟩ (aP g8 (aP g9 (aP g13 (aP g14 aN)))) ?_
        refine Vc [] [] (lTexts_R (r15 == (some 2))) (W_ret ?_)
        exact ⟨.inl rfl, by cases h; rfl⟩
       ·replace h := bif_f h g13
        refine Vg hT fN [(1, true), (3, false), (10, false)] [] [] ⟨[(4, kB false)], [], []⟩ (aP g8 (aP g9 (aP g13 aN))) ?_
        refine Vc [] [] (lTexts_R false) (W_ret ?_)
        exact ⟨.inl rfl, by cases h; rfl⟩
     ·replace h := bif_f h g8
      refine Vg hT fN [(1, false)] [] [] ⟨[(4, kB false)], [], []⟩ (aP g8 aN) ?_
      refine Vc [] [] (lTexts_R false) (W_ret ?_)
      exact ⟨.inl rfl, by cases h; rfl⟩
   ·replace h := bif_f h g4
    refine Vg hT fN [(2, true), (6, false)] [] [0] ⟨[(0, kU l0), (1, kH 0), (5, kB r8), (6, kE 31 r15), (25, kB false)], [], [ob 5 l1]⟩ (aP g3 (aP g4 aN)) ?_
    refine Vi (false) (fun hb => by cases hb) (fun _ => ?_)
    refine W_skip ?_
    obtain ⟨r34, g16, h⟩ := bind_some' h
    refine Vgs hT (fT 2 (rText_ok n r34) fN) [] [] [] ⟨[(5, kB r8), (6, kE 31 r15), (7, kB r34)], [], []⟩ (aP g16 aN) ?_
    refine W_seq ?_
    rcases Bool.eq_false_or_eq_true r8 with g17 | g17
    ·replace h := bif_t h g17
     rcases Bool.eq_false_or_eq_true r34 with g18 | g18
     ·replace h := bif_t h g18
      rcases Bool.eq_false_or_eq_true ((r15).isNone) with g19 | g19
      ·replace h := bif_t h g19
       refine Vg hT fN [(1, true), (3, true), (7, true)] [] [] ⟨[(4, kB true)], [], []⟩ (aP g17 (aP g18 (aP g19 aN))) ?_
       refine Vc [] [] (lTexts_R true) (W_ret ?_)
       exact ⟨.inl rfl, by cases h; rfl⟩
      ·replace h := bif_f h g19
       rcases Bool.eq_false_or_eq_true (!r34) with g20 | g20
       ·replace h := bif_t h g20
        obtain ⟨g21, h⟩ := gd_some h
        refine Vg hT fN [(1, true), (3, true), (7, false), (10, true)] [] [] ⟨[(4, kB (r15 == (some 2)))], [], []⟩ (aP g17 (aP g18 (aP g19 (aP g20 (aP g21 aN))))) ?_
        refine Vc [] [] (lTexts_R (r15 == (some 2))) (W_ret ?_)
        exact ⟨.inl rfl, by cases h; rfl⟩
       ·replace h := bif_f h g20
        refine Vg hT fN [(1, true), (3, true), (7, false), (10, false)] [] [] ⟨[(4, kB false)], [], []⟩ (aP g17 (aP g18 (aP g19 (aP g20 aN)))) ?_
        refine Vc [] [] (lTexts_R false) (W_ret ?_)
        exact ⟨.inl rfl, by cases h; rfl⟩
     ·replace h := bif_f h g18
      rcases Bool.eq_false_or_eq_true (!r34) with g22 | g22
      ·replace h := bif_t h g22
       obtain ⟨g23, h⟩ := gd_some h
       refine Vg hT fN [(1, true), (3, false), (10, true)] [] [] ⟨[(4, kB (r15 == (some 2)))], [], []⟩ (aP g17 (aP g18 (aP g22 (aP g23 aN)))) ?_
       refine Vc [] [] (lTexts_R (r15 == (some 2))) (W_ret ?_)
       exact ⟨.inl rfl, by cases h; rfl⟩
      ·replace h := bif_f h g22
       refine Vg hT fN [(1, true), (3, false), (10, false)] [] [] ⟨[(4, kB false)], [], []⟩ (aP g17 (aP g18 (aP g22 aN))) ?_
       refine Vc [] [] (lTexts_R false) (W_ret ?_)
       exact ⟨.inl rfl, by cases h; rfl⟩
    ·replace h := bif_f h g17
     refine Vg hT fN [(1, false)] [] [] ⟨[(4, kB false)], [], []⟩ (aP g17 aN) ?_
     refine Vc [] [] (lTexts_R false) (W_ret ?_)
     exact ⟨.inl rfl, by cases h; rfl⟩
  ·replace h := bif_f h g3
   refine Vg hT fN [(2, false)] [] [0] ⟨[(0, kU l0), (1, kH 0), (5, kB r8), (6, kE 31 r15), (25, kB false)], [], [ob 5 l1]⟩ (aP g3 aN) ?_
   refine Vi (false) (fun hb => by cases hb) (fun _ => ?_)
   refine W_skip ?_
   obtain ⟨r34, g24, h⟩ := bind_some' h
   refine Vgs hT (fT 2 (rText_ok n r34) fN) [] [] [] ⟨[(5, kB r8), (6, kE 31 r15), (7, kB r34)], [], []⟩ (aP g24 aN) ?_
   refine W_seq ?_
   rcases Bool.eq_false_or_eq_true r8 with g25 | g25
   ·replace h := bif_t h g25
    rcases Bool.eq_false_or_eq_true r34 with g26 | g26
    ·replace h := bif_t h g26
     rcases Bool.eq_false_or_eq_true ((r15).isNone) with g27 | g27
     ·replace h := bif_t h g27
      refine Vg hT fN [(1, true), (3, true), (7, true)] [] [] ⟨[(4, kB true)], [], []⟩ (aP g25 (aP g26 (aP g27 aN))) ?_
      refine Vc [] [] (lTexts_R true) (W_ret ?_)
      exact ⟨.inl rfl, by cases h; rfl⟩
     ·replace h := bif_f h g27
      rcases Bool.eq_false_or_eq_true (!r34) with g28 | g28
      ·replace h := bif_t h g28
       obtain ⟨g29, h⟩ := gd_some h
       refine Vg hT fN [(1, true), (3, true), (7, false), (10, true)] [] [] ⟨[(4, kB (r15 == (some 2)))], [], []⟩ (aP g25 (aP g26 (aP g27 (aP g28 (aP g29 aN))))) ?_
       refine Vc [] [] (lTexts_R (r15 == (some 2))) (W_ret ?_)
       exact ⟨.inl rfl, by cases h; rfl⟩
      ·replace h := bif_f h g28
       refine Vg hT fN [(1, true), (3, true), (7, false), (10, false)] [] [] ⟨[(4, kB false)], [], []⟩ (aP g25 (aP g26 (aP g27 (aP g28 aN)))) ?_
       refine Vc [] [] (lTexts_R false) (W_ret ?_)
       exact ⟨.inl rfl, by cases h; rfl⟩
    ·replace h := bif_f h g26
     rcases Bool.eq_false_or_eq_true (!r34) with g30 | g30
     ·replace h := bif_t h g30
      obtain ⟨g31, h⟩ := gd_some h
      refine Vg hT fN [(1, true), (3, false), (10, true)] [] [] ⟨[(4, kB (r15 == (some 2)))], [], []⟩ (aP g25 (aP g26 (aP g30 (aP g31 aN)))) ?_
      refine Vc [] [] (lTexts_R (r15 == (some 2))) (W_ret ?_)
      exact ⟨.inl rfl, by cases h; rfl⟩
     ·replace h := bif_f h g30
      refine Vg hT fN [(1, true), (3, false), (10, false)] [] [] ⟨[(4, kB false)], [], []⟩ (aP g25 (aP g26 (aP g30 aN))) ?_
      refine Vc [] [] (lTexts_R false) (W_ret ?_)
      exact ⟨.inl rfl, by cases h; rfl⟩
   ·replace h := bif_f h g25
    refine Vg hT fN [(1, false)] [] [] ⟨[(4, kB false)], [], []⟩ (aP g25 aN) ?_
    refine Vc [] [] (lTexts_R false) (W_ret ?_)
    exact ⟨.inl rfl, by cases h; rfl⟩
end Go.Proofs.Ytliilihbnhdemaa
end
section
namespace Go.Sx
open Go Go.RowKit Go.Ch Go.Proofs.Ytliilihbnhdemaa
theorem drop_at {α : Type} {l : List α} {i : Nat} {z : α} (h : i < l.length) : l.drop i = l.getD i z :: l.drop (i + 1) := by
 rw [List.drop_eq_getElem_cons h, List.getD_eq_getElem?_getD, List.getElem?_eq_getElem h]; rfl
abbrev oth : List UInt8 := [32, 39, 40, 41, 43, 44, 45, 46, 47, 58, 61, 63]
theorem loop_true (f : Nat → Int → Option Bool) (K : Option Bool) (hf : ∀ fu i, f (fu + 1) i = bif (decide (i < ((oth.length : Nat) : Int))) then gd (okI .i64 (i + 1)) (f fu (i + 1)) else K) : ∀ (m i fu : Nat), i + m = 12 → m < fu → f fu (i : Int) = K := by
 intro m
 induction m with
 | zero =>
  intro i fu hi hf'
  cases fu with
  | zero => omega
  | succ fu => rw [hf, ite_f (decide_eq_false (by show ¬ (i : Int) < 12; omega))]
 | succ m ih =>
  intro i fu hi hf'
  cases fu with
  | zero => omega
  | succ fu =>
   rw [hf, ite_t (decide_eq_true (by show (i : Int) < 12; omega)), gd_pos (okI64 (by omega) (by omega))]
   exact ih (i + 1) fu (by omega) (by omega)
theorem loop_any (f : Nat → Bool → Int → Option Bool) (K : Option Bool) (x : UInt8)
  (hf : ∀ fu p i, f (fu + 1) p i = bif (decide (i < ((oth.length : Nat) : Int))) then bif p then gd (okI .i64 (i + 1)) (f fu true (i + 1)) else gd (0 ≤ i) (gd (i < ((oth.length : Nat) : Int)) (gd (okI .i64 (i + 1)) (f fu (x == oth.getD i.toNat 0) (i + 1))))
   else bif (!p) then some false else K) : ∀ (m i fu : Nat) (p : Bool), i + m = 12 → m < fu → f fu p (i : Int) = if p || (oth.drop i).contains x then K else some false := by
 intro m
 induction m with
 | zero =>
  intro i fu p hi hf'
  cases fu with
  | zero => omega
  | succ fu =>
   obtain rfl : i = 12 := by omega
   rw [hf, ite_f (by rfl)]
   cases p <;> rfl
 | succ m ih =>
  intro i fu p hi hf'
  cases fu with
  | zero => omega
  | succ fu =>
   have hd : oth.drop i = oth.getD i 0 :: oth.drop (i + 1) := drop_at (by show i < 12; omega)
   rw [hf, ite_t (decide_eq_true (by show (i : Int) < 12; omega)), hd]
   cases p with
   | true =>
    rw [ite_t (by rfl), gd_pos (okI64 (by omega) (by omega))]
    have := ih (i + 1) fu true (by omega) (by omega)
    rw [Bool.true_or] at this ⊢
    exact this
   | false =>
    rw [ite_f (by rfl), gd_pos (by omega), gd_pos (by show (i : Int) < 12; omega), gd_pos (okI64 (by omega) (by omega)), Int.toNat_natCast]
    have := ih (i + 1) fu (x == oth.getD i 0) (by omega) (by omega)
    rw [List.contains_cons, Bool.false_or]
    exact this
theorem rText_l1_is {n : Nat} (hn : 100 ≤ n) {mk : UInt8} {a : List UInt8} (ha : a.length ≤ 100000) (hm : mk = 19 ∨ mk = 22) : ∀ (m i fu : Nat), i + m = a.length → m < fu → rText_l1 n mk a fu (i : Int) = some (!((a.drop i).any (if mk = 19 then prtN else hiB))) := by
 intro m
 induction m with
 | zero =>
  intro i fu hi hf
  cases fu with
  | zero => omega
  | succ fu => rw [rText_l1, ite_f (decide_eq_false (by omega)), List.drop_eq_nil_of_le (by omega)]; rfl
 | succ m ih =>
  intro i fu hi hf
  cases fu with
  | zero => omega
  | succ fu =>
   have hd := drop_at (l := a) (z := 0) (show i < a.length by omega)
   have hj : rText_j1 n mk a (i : Int) (rText_l1 n mk a fu) = some (!((a.drop (i + 1)).any (if mk = 19 then prtN else hiB))) := by
    unfold rText_j1
    rw [gd_pos (okI64 (by omega) (by omega))]
    exact ih (i + 1) fu (by omega) (by omega)
   rw [rText_l1, ite_t (decide_eq_true (by omega)), gd_pos (by omega), gd_pos (by omega), Int.toNat_natCast, hd, List.any_cons]
   generalize hx : a.getD i 0 = x
   have hx' : a.getD ((i : Nat) : Int).toNat 0 = x := by rw [Int.toNat_natCast]; exact hx
   generalize hK : rText_j1 n mk a (i : Int) (rText_l1 n mk a fu) = K at hj
   by_cases h128 : 128 ≤ x
   ·rw [ite_t (decide_eq_true h128)]
    have h1 : hiB x = true := decide_eq_true h128
    have h2 : prtN x = true := by
     have : ∀ i : Fin 256, 128 ≤ UInt8.ofNat i.1 → prtN (UInt8.ofNat i.1) = true := by decide +kernel
     have := this ⟨x.toNat, x.toNat_lt⟩
     simp only [UInt8.ofNat_toNat] at this
     exact this h128
    rcases hm with rfl | rfl
    ·rw [if_pos rfl, h2]; rfl
    ·rw [if_neg (by decide), h1]; rfl
   ·rw [ite_f (decide_eq_false h128)]
    rcases hm with rfl | rfl
    ·rw [ite_t (by rfl), if_pos rfl]
     rw [if_pos rfl] at hj
     have kT : ∀ (f : Nat → Int → Option Bool), (∀ fu i, f (fu + 1) i = bif (decide (i < ((oth.length : Nat) : Int))) then gd (okI .i64 (i + 1)) (f fu (i + 1)) else K) → prB x = true → f n 0 = some (!(prtN x || (a.drop (i + 1)).any prtN)) := fun f hf hp => by
      rw [show (0 : Int) = ((0 : Nat) : Int) from rfl, loop_true f K hf 12 0 n rfl (by omega), hj]
      unfold prtN at *; rw [hp]; rfl
     have kA : ∀ (f : Nat → Bool → Int → Option Bool) (p : Bool), (∀ fu p i, f (fu + 1) p i = bif (decide (i < ((oth.length : Nat) : Int))) then bif p then gd (okI .i64 (i + 1)) (f fu true (i + 1)) else gd (0 ≤ i) (gd (i < ((oth.length : Nat) : Int)) (gd (okI .i64 (i + 1)) (f fu (x == oth.getD i.toNat 0) (i + 1)))) else bif (!p) then some false else K) → prB x = (p || oth.contains x) → f n p 0 = some (!(prtN x || (a.drop (i + 1)).any prtN)) := fun f p hf hp => by
      rw [show (0 : Int) = ((0 : Nat) : Int) from rfl, loop_any f K x hf 12 0 n p rfl (by omega), List.drop_zero, ← hp]
      unfold prtN at *
      cases h : prB x with
      | true => rw [if_pos rfl, hj]; rfl
      | false => rfl
     have pe : prB x = (decide (97 ≤ x) && decide (x ≤ 122) || decide (65 ≤ x) && decide (x ≤ 90) || decide (48 ≤ x) && decide (x ≤ 57) || oth.contains x) := rfl
     by_cases h97 : 97 ≤ x
     ·rw [ite_t (decide_eq_true h97)]
      by_cases h122 : x ≤ 122
      ·rw [ite_t (decide_eq_true h122)]
       exact kT _ (fun fu i => by rw [← hK]; rfl) (by rw [pe, decide_eq_true h97, decide_eq_true h122]; rfl)
      ·rw [ite_f (decide_eq_false h122)]
       have h65 : 65 ≤ x := UInt8.le_trans (by decide) h97
       have h90 : ¬ x ≤ 90 := fun h => h122 (UInt8.le_trans h (by decide))
       have h48 : 48 ≤ x := UInt8.le_trans (by decide) h97
       have h57 : ¬ x ≤ 57 := fun h => h122 (UInt8.le_trans h (by decide))
       rw [ite_t (decide_eq_true h65), ite_f (decide_eq_false h90), ite_t (decide_eq_true h48)]
       exact kA _ _ (fun fu p i => by rw [← hK, ← hx]; rfl) (by rw [pe, decide_eq_false h122, decide_eq_false h90, decide_eq_true h48]; simp)
     ·rw [ite_f (decide_eq_false h97)]
      by_cases h65 : 65 ≤ x
      ·rw [ite_t (decide_eq_true h65)]
       by_cases h90 : x ≤ 90
       ·rw [ite_t (decide_eq_true h90)]
        exact kT _ (fun fu i => by rw [← hK]; rfl) (by rw [pe, decide_eq_true h65, decide_eq_true h90]; simp)
       ·rw [ite_f (decide_eq_false h90)]
        have h48 : 48 ≤ x := UInt8.le_trans (by decide) h65
        rw [ite_t (decide_eq_true h48)]
        exact kA _ _ (fun fu p i => by rw [← hK, ← hx]; rfl) (by rw [pe, decide_eq_false h97, decide_eq_false h90, decide_eq_true h48]; simp)
      ·rw [ite_f (decide_eq_false h65)]
       by_cases h48 : 48 ≤ x
       ·rw [ite_t (decide_eq_true h48)]
        exact kA _ _ (fun fu p i => by rw [← hK, ← hx]; rfl) (by rw [pe, decide_eq_false h97, decide_eq_false h65, decide_eq_true h48]; simp)
       ·rw [ite_f (decide_eq_false h48)]
        exact kA _ _ (fun fu p i => by rw [← hK, ← hx]; rfl) (by rw [pe, decide_eq_false h97, decide_eq_false h65, decide_eq_false h48]; simp)
    ·rw [ite_f (by rfl), if_neg (by decide), hj, if_neg (by decide)]
     have h1 : hiB x = false := decide_eq_false h128
     rw [h1]; rfl
end Go.Sx
end
section
namespace Go.Sx
open Go Go.RowKit Go.Ch Go.Proofs.Ytliilihbnhdemaa
def loB (b : Nat) : Nat := if b = 224 then 160 else if b = 240 then 144 else 128
def hiE (b : Nat) : Nat := if b = 237 then 159 else if b = 244 then 143 else 191
theorem loB_is (b : Nat) : (b = 224 ∧ loB b = 160) ∨ (b = 240 ∧ loB b = 144) ∨ (b ≠ 224 ∧ b ≠ 240 ∧ loB b = 128) := by unfold loB; split <;> (try split) <;> omega
theorem hiE_is (b : Nat) : (b = 237 ∧ hiE b = 159) ∨ (b = 244 ∧ hiE b = 143) ∨ (b ≠ 237 ∧ b ≠ 244 ∧ hiE b = 191) := by unfold hiE; split <;> (try split) <;> omega
def refOK (N b0 b1 b2 b3 : Nat) : Option Nat :=
 if b0 < 128 then some 0
 else if 194 ≤ b0 ∧ b0 ≤ 223 then (if 1 < N ∧ 128 ≤ b1 ∧ b1 ≤ 191 then some 1 else none)
 else if 224 ≤ b0 ∧ b0 ≤ 239 then (if 2 < N ∧ loB b0 ≤ b1 ∧ b1 ≤ hiE b0 ∧ 128 ≤ b2 ∧ b2 < 192 then some 2 else none)
 else if 240 ≤ b0 ∧ b0 ≤ 244 then (if 3 < N ∧ loB b0 ≤ b1 ∧ b1 ≤ hiE b0 ∧ 128 ≤ b2 ∧ b2 < 192 ∧ 128 ≤ b3 ∧ b3 < 192 then some 3 else none)
 else none
def isBad (N b0 b1 b2 : Nat) : Prop := 3 ≤ N ∧ b0 = 239 ∧ b1 = 191 ∧ b2 = 189
set_option maxHeartbeats 4000000 in
theorem dec_some {N b0 b1 b2 b3 k : Nat} (h0 : b0 < 256) (h1 : b1 < 256) (h2 : b2 < 256) (h3 : b3 < 256) (h : refOK N b0 b1 b2 b3 = some k) : (Lib.decodeN N b0 b1 b2 b3).2 = k + 1 ∧ ((Lib.decodeN N b0 b1 b2 b3).1 = 65533 → isBad N b0 b1 b2) := by
 unfold refOK at h
 split at h
 ·injection h with h; subst h
  unfold Lib.decodeN
  rw [if_pos (by assumption)]
  exact ⟨rfl, fun e => by simp only at e; omega⟩
 ·split at h
  ·split at h
   ·injection h with h; subst h
    unfold Lib.decodeN
    rw [if_neg (by omega), if_pos (by omega), if_pos (by omega)]
    exact ⟨rfl, fun e => by simp only at e; omega⟩
   ·cases h
  ·split at h
   ·split at h
    ·injection h with h; subst h
     rename_i hc
     have hlo := loB_is b0
     have hhi := hiE_is b0
     have hb1 : b1 ≤ 191 := by omega
     unfold Lib.decodeN
     rw [if_neg (by omega), if_neg (by omega), if_pos (by omega), if_pos (by omega)]
     exact ⟨rfl, fun e => by simp only at e; unfold isBad; omega⟩
    ·cases h
   ·split at h
    ·split at h
     ·injection h with h; subst h
      rename_i hc
      have hlo := loB_is b0
      have hhi := hiE_is b0
      have hb1 : b1 ≤ 191 := by omega
      unfold Lib.decodeN
      rw [if_neg (by omega), if_neg (by omega), if_neg (by omega), if_pos (by omega), if_pos (by omega)]
      exact ⟨rfl, fun e => by simp only at e; omega⟩
     ·cases h
    ·cases h
set_option maxHeartbeats 4000000 in
theorem dec_none {N b0 b1 b2 b3 : Nat} (h0 : b0 < 256) (h1 : b1 < 256) (h2 : b2 < 256) (h3 : b3 < 256) (h : refOK N b0 b1 b2 b3 = none) : Lib.decodeN N b0 b1 b2 b3 = (65533, 1) ∧ ¬ isBad N b0 b1 b2 := by
 unfold refOK at h
 unfold isBad
 split at h
 ·cases h
 ·rename_i c0
  split at h
  ·rename_i c1
   split at h
   ·cases h
   ·rename_i c2
    unfold Lib.decodeN
    rw [if_neg c0, if_neg (by omega), if_neg (by omega), if_neg (by omega)]
    exact ⟨rfl, by omega⟩
  ·rename_i c1
   split at h
   ·rename_i c2
    split at h
    ·cases h
    ·rename_i c3
     have hlo := loB_is b0
     have hhi := hiE_is b0
     unfold Lib.decodeN
     rw [if_neg c0, if_neg (by omega)]
     refine ⟨?_, by omega⟩
     split
     ·rw [if_neg (by omega)]
     ·rw [if_neg (by omega)]
   ·rename_i c2
    split at h
    ·rename_i c3
     split at h
     ·cases h
     ·rename_i c4
      have hlo := loB_is b0
      have hhi := hiE_is b0
      unfold Lib.decodeN
      rw [if_neg c0, if_neg (by omega), if_neg (by omega)]
      refine ⟨?_, by omega⟩
      split
      ·rw [if_neg (by omega)]
      ·rfl
    ·rename_i c3
     unfold Lib.decodeN
     refine ⟨?_, by omega⟩
     rw [if_neg c0]
     split
     ·rw [if_neg (by omega)]
     ·split
      ·rw [if_neg (by omega)]
      ·split
       ·rw [if_neg (by omega)]
       ·rfl
def stp3 (a : List UInt8) (i : Nat) : Option Nat := refOK (a.length - i) (a.getD i 0).toNat (a.getD (i + 1) 0).toNat (a.getD (i + 2) 0).toNat (a.getD (i + 3) 0).toNat
theorem get!_D (a : List UInt8) (i : Nat) : (⟨a.toArray⟩ : ByteArray).get! i = a.getD i 0 := by
 show a.toArray[i]! = _
 rw [List.getElem!_toArray, List.getElem!_eq_getElem?_getD, List.getD_eq_getElem?_getD]; rfl
theorem dec_at (a : List UInt8) (i : Nat) : Utf8.decode ⟨a.toArray⟩ i = Lib.decodeN (a.length - i) (a.getD i 0).toNat (a.getD (i + 1) 0).toNat (a.getD (i + 2) 0).toNat (a.getD (i + 3) 0).toNat := by
 rw [Lib.decode_at, get!_D, get!_D, get!_D, get!_D]; rfl
theorem preF_drop (a : List UInt8) (i : Nat) (hi : i < a.length) : preF (a.drop i) = true ↔ isBad (a.length - i) (a.getD i 0).toNat (a.getD (i + 1) 0).toNat (a.getD (i + 2) 0).toNat := by
 unfold preF isBad
 rw [beq_iff_eq]
 have e : ∀ (x : UInt8) (k : Nat), k < 256 → (x.toNat = k ↔ x = UInt8.ofNat k) := fun x k hk => by
  rw [← UInt8.toNat_inj]; simp [Nat.mod_eq_of_lt hk]
 rw [e _ _ (by decide), e _ _ (by decide), e _ _ (by decide)]
 constructor
 ·intro h
  have hl := congrArg List.length h
  rw [List.length_take, List.length_drop] at hl
  have h3 : 3 ≤ a.length - i := by simp at hl; omega
  rw [drop_at (z := 0) hi, drop_at (z := 0) (show i + 1 < a.length by omega), drop_at (z := 0) (show i + 1 + 1 < a.length by omega)] at h
  simp only [List.take_succ_cons, List.take_zero, List.cons.injEq, and_true] at h
  exact ⟨h3, h.1, h.2.1, h.2.2⟩
 ·rintro ⟨h3, h4, h5, h6⟩
  rw [drop_at (z := 0) hi, drop_at (z := 0) (show i + 1 < a.length by omega), drop_at (z := 0) (show i + 1 + 1 < a.length by omega), h4, h5, h6]; rfl
theorem ext_drop (a : List UInt8) (i : Nat) : ((⟨a.toArray⟩ : ByteArray).extract i (⟨a.toArray⟩ : ByteArray).size).data.toList = a.drop i := by
 rw [show (⟨a.toArray⟩ : ByteArray).size = a.length from rfl]
 simp [ByteArray.data_extract, List.take_of_length_le]
theorem pts_step (a : List UInt8) (f i : Nat) (hi : i < a.length) : ptsFrom ⟨a.toArray⟩ (f + 1) i = match stp3 a i with | none => false | some k => ptsFrom ⟨a.toArray⟩ f (i + (k + 1)) := by
 have b := fun j => (a.getD j 0).toNat_lt
 rw [ptsFrom, if_pos (show i < (⟨a.toArray⟩ : ByteArray).size from hi), ext_drop, dec_at]
 unfold stp3
 cases h : refOK (a.length - i) (a.getD i 0).toNat (a.getD (i + 1) 0).toNat (a.getD (i + 2) 0).toNat (a.getD (i + 3) 0).toNat with
 | none =>
  obtain ⟨h1, h2⟩ := dec_none (b _) (b _) (b _) (b _) h
  rw [h1, if_pos ⟨rfl, by rw [Bool.eq_false_iff]; exact fun e => h2 ((preF_drop a i hi).1 e)⟩]
 | some k =>
  obtain ⟨h1, h2⟩ := dec_some (b _) (b _) (b _) (b _) h
  rw [h1, if_neg (fun ⟨e1, e2⟩ => by rw [(preF_drop a i hi).2 (h2 e1)] at e2; cases e2)]
end Go.Sx
end
section
namespace Go.Sx
open Go Go.RowKit Go.Ch Go.Proofs.Ytliilihbnhdemaa
def lat (x : UInt8) : Bool := decide (128 ≤ x) && decide (x < 192)
theorem rlater_is (n : Nat) (x : UInt8) : rlater n x = some (lat x) := by
 unfold rlater lat
 by_cases h : 128 ≤ x
 ·rw [ite_t (decide_eq_true h), decide_eq_true h, Bool.true_and]
 ·rw [ite_f (decide_eq_false h), decide_eq_false h]; rfl
theorem lat_iff (x : UInt8) : lat x = true ↔ 128 ≤ x.toNat ∧ x.toNat < 192 := by
 unfold lat
 rw [Bool.and_eq_true, decide_eq_true_eq, decide_eq_true_eq, UInt8.le_iff_toNat_le, UInt8.lt_iff_toNat_lt]; rfl
open Classical in
theorem l23_is (f : Nat → Int → Option Bool) (n : Nat) (a : List UInt8) (ha : a.length ≤ 100000) (i nn : Nat) (hnn : nn ≤ 3) (hi : i + nn < a.length) (K : Int → Option Bool)
  (hf : ∀ fu j, f (fu + 1) j = bif (decide (j ≤ (nn : Int))) then gd (okI .i64 ((i : Int) + j)) (gd (0 ≤ ((i : Int) + j)) (gd (((i : Int) + j) < ((a.length : Nat) : Int)) ((rlater n (a.getD (((i : Int) + j).toNat) 0)).bind fun r => bif (!r) then some false else gd (okI .i64 (j + 1)) (f fu (j + 1)))))
   else gd (okI .i64 ((i : Int) + 1)) (gd (okI .i64 (((i : Int) + 1) + (nn : Int))) (K (((i : Int) + 1) + (nn : Int))))) :
  ∀ (m j fu : Nat), j + m = 4 → 2 ≤ j → m < fu → f fu (j : Int) = if ∀ q, j ≤ q → q ≤ nn → lat (a.getD (i + q) 0) = true then K (((i + (nn + 1) : Nat) : Int)) else some false := by
 intro m
 have he : (((i : Int) + 1) + (nn : Int)) = ((i + (nn + 1) : Nat) : Int) := by omega
 induction m with
 | zero =>
  intro j fu hj h2 hf'
  cases fu with
  | zero => omega
  | succ fu =>
   rw [hf, ite_f (decide_eq_false (by omega)), gd_pos (okI64 (by omega) (by omega)), gd_pos (okI64 (by omega) (by omega)), he, if_pos (fun q h1 h2 => by omega)]
 | succ m ih =>
  intro j fu hj h2 hf'
  cases fu with
  | zero => omega
  | succ fu =>
   by_cases hle : j ≤ nn
   ·have et : ((i : Int) + (j : Int)).toNat = i + j := by omega
    rw [hf, ite_t (decide_eq_true (by omega)), gd_pos (okI64 (by omega) (by omega)), gd_pos (by omega), gd_pos (by omega), et, rlater_is, Option.bind_some]
    cases hl : lat (a.getD (i + j) 0) with
    | false =>
     rw [ite_t (by rfl), if_neg (fun h => by rw [h j (Nat.le_refl _) hle] at hl; cases hl)]
    | true =>
     rw [ite_f (by rfl), gd_pos (okI64 (by omega) (by omega))]
     have := ih (j + 1) fu (by omega) (by omega) (by omega)
     refine this.trans ?_
     by_cases hc : ∀ q, j + 1 ≤ q → q ≤ nn → lat (a.getD (i + q) 0) = true
     ·rw [if_pos hc, if_pos (fun q h1 h2 => by
       rcases Nat.lt_or_ge j q with h3 | h3
       ·exact hc q h3 h2
       ·obtain rfl : q = j := by omega
        exact hl)]
     ·rw [if_neg hc, if_neg (fun h => hc fun q h1 h2 => h q (by omega) h2)]
   ·rw [hf, ite_f (decide_eq_false (by omega)), gd_pos (okI64 (by omega) (by omega)), gd_pos (okI64 (by omega) (by omega)), he, if_pos (fun q h1 h2 => by omega)]
open Classical in
theorem j5_is {n : Nat} (hn : 100 ≤ n) (a : List UInt8) (ha : a.length ≤ 100000) (i nn lo hi : Nat) (hnn : nn ≤ 3) (hi2 : i < a.length) (K : Int → Option Bool) :
  rPoints_j5 n a (i : Int) (nn : Int) (lo : Int) K (hi : Int) = if i + nn < a.length ∧ (nn = 0 ∨ (lo ≤ (a.getD (i + 1) 0).toNat ∧ (a.getD (i + 1) 0).toNat ≤ hi)) ∧ (∀ q, 2 ≤ q → q ≤ nn → lat (a.getD (i + q) 0) = true) then K (((i + (nn + 1) : Nat) : Int)) else some false := by
 unfold rPoints_j5
 rw [gd_pos (okI64 (by omega) (by omega))]
 by_cases h1 : i + nn < a.length
 ·rw [ite_f (decide_eq_false (by omega))]
  have e1 : ((i : Int) + 1).toNat = i + 1 := by omega
  by_cases h0 : nn = 0
  ·subst h0
   rw [ite_f (decide_eq_false (by omega))]
   rw [show (2 : Int) = ((2 : Nat) : Int) from rfl, l23_is (rPoints_l3 n a (i : Int) ((0 : Nat) : Int) K) n a ha i 0 (by omega) h1 K (fun fu j => rfl) 2 2 n rfl (by omega) (by omega)]
   rw [if_pos (fun q h1 h2 => by omega), if_pos ⟨h1, .inl rfl, fun q h1 h2 => by omega⟩]
  ·rw [ite_t (decide_eq_true (by omega)), gd_pos (okI64 (by omega) (by omega)), gd_pos (by omega), gd_pos (by omega), e1]
   by_cases h2 : (a.getD (i + 1) 0).toNat < lo
   ·rw [ite_t (decide_eq_true (by omega)), if_neg (fun h => by have := h.2.1; omega)]
   ·rw [ite_f (decide_eq_false (by omega)), gd_pos (okI64 (by omega) (by omega)), gd_pos (by omega), gd_pos (by omega)]
    by_cases h3 : hi < (a.getD (i + 1) 0).toNat
    ·rw [ite_t (decide_eq_true (by omega)), if_neg (fun h => by have := h.2.1; omega)]
    ·rw [ite_f (decide_eq_false (by omega))]
     rw [show (2 : Int) = ((2 : Nat) : Int) from rfl, l23_is (rPoints_l2 n a (i : Int) (nn : Int) K) n a ha i nn hnn h1 K (fun fu j => rfl) 2 2 n rfl (by omega) (by omega)]
     by_cases hc : ∀ q, 2 ≤ q → q ≤ nn → lat (a.getD (i + q) 0) = true
     ·rw [if_pos hc, if_pos ⟨h1, .inr ⟨by omega, by omega⟩, hc⟩]
     ·rw [if_neg hc, if_neg (fun h => hc h.2.2)]
 ·rw [ite_t (decide_eq_true (by omega)), if_neg (fun h => h1 h.1)]
theorem j1_is (n : Nat) (a : List UInt8) (i : Nat) (K : Int → Option Bool) (nn : Int) : rPoints_j1 n a (i : Int) K nn = rPoints_j5 n a (i : Int) nn ((loB (a.getD i 0).toNat : Nat) : Int) K ((hiE (a.getD i 0).toNat : Nat) : Int) := by
 unfold rPoints_j1 rPoints_j2 rPoints_j3 rPoints_j4
 rw [Int.toNat_natCast]
 generalize (a.getD i 0).toNat = b
 have key : ∀ k : Nat, (((b : Int)) == (k : Int)) = decide (b = k) := fun k => by
  by_cases h : b = k
  ·subst h; simp
  ·rw [decide_eq_false h, beq_eq_false_iff_ne]; omega
 have k1 : ((b : Int) == 224) = decide (b = 224) := key 224
 have k2 : ((b : Int) == 237) = decide (b = 237) := key 237
 have k3 : ((b : Int) == 240) = decide (b = 240) := key 240
 have k4 : ((b : Int) == 244) = decide (b = 244) := key 244
 rw [k1, k2, k3, k4]
 unfold loB hiE
 by_cases h1 : b = 224
 ·subst h1; rfl
 ·by_cases h2 : b = 237
  ·subst h2; rfl
  ·by_cases h3 : b = 240
   ·subst h3; rfl
   ·by_cases h4 : b = 244
    ·subst h4; rfl
    ·rw [decide_eq_false h1, decide_eq_false h2, decide_eq_false h3, decide_eq_false h4, if_neg h1, if_neg h3, if_neg h2, if_neg h4]; rfl
open Classical in
theorem pt_step {n : Nat} (hn : 100 ≤ n) (a : List UInt8) (ha : a.length ≤ 100000) (fu i : Nat) (hi : i < a.length) : rPoints_l1 n a (fu + 1) (i : Int) = match stp3 a i with | none => some false | some k => rPoints_l1 n a fu ((i + (k + 1) : Nat) : Int) := by
 have hj : ∀ nn : Nat, nn ≤ 3 → rPoints_j1 n a (i : Int) (rPoints_l1 n a fu) (nn : Int) = if i + nn < a.length ∧ (nn = 0 ∨ (loB (a.getD i 0).toNat ≤ (a.getD (i + 1) 0).toNat ∧ (a.getD (i + 1) 0).toNat ≤ hiE (a.getD i 0).toNat)) ∧ (∀ q, 2 ≤ q → q ≤ nn → lat (a.getD (i + q) 0) = true) then rPoints_l1 n a fu (((i + (nn + 1) : Nat) : Int)) else some false := fun nn hnn => by
  rw [j1_is, j5_is hn a ha i nn _ _ hnn hi]
 have j0 := hj 0 (by omega); have j1 := hj 1 (by omega); have j2 := hj 2 (by omega); have j3 := hj 3 (by omega)
 clear hj
 have l2 := lat_iff (a.getD (i + 2) 0); have l3 := lat_iff (a.getD (i + 3) 0)
 rw [rPoints_l1, ite_t (decide_eq_true (by omega)), gd_pos (by omega), gd_pos (by omega), Int.toNat_natCast]
 unfold stp3 refOK
 have hb := loB_is (a.getD i 0).toNat; have he := hiE_is (a.getD i 0).toNat
 generalize hG : rPoints_l1 n a fu = G at *
 have j0' : rPoints_j1 n a (i : Int) G 0 = _ := j0
 have j1' : rPoints_j1 n a (i : Int) G 1 = _ := j1
 have j2' : rPoints_j1 n a (i : Int) G 2 = _ := j2
 have j3' : rPoints_j1 n a (i : Int) G 3 = _ := j3
 clear j0 j1 j2 j3
 generalize (a.getD i 0).toNat = b0 at *
 by_cases c0 : b0 < 128
 ·rw [ite_t (decide_eq_true (by omega)), if_pos c0, j0', if_pos ⟨by omega, .inl rfl, fun q h1 h2 => by omega⟩]
 ·rw [ite_f (decide_eq_false (by omega)), if_neg c0]
  by_cases c1 : 194 ≤ b0 ∧ b0 ≤ 223
  ·rw [ite_t (decide_eq_true (by omega)), ite_t (decide_eq_true (by omega)), if_pos c1, j1']
   by_cases c2 : 1 < a.length - i ∧ 128 ≤ (a.getD (i + 1) 0).toNat ∧ (a.getD (i + 1) 0).toNat ≤ 191
   ·rw [if_pos c2, if_pos ⟨by omega, .inr ⟨by omega, by omega⟩, fun q h1 h2 => by omega⟩]
   ·rw [if_neg c2, if_neg (fun h => c2 (by have := h.1; have := h.2.1; omega))]
  ·rw [if_neg c1]
   have step2 : (bif (decide ((224 : Int) ≤ ((b0 : Nat) : Int))) then
      bif (decide (((b0 : Nat) : Int) ≤ (239 : Int))) then rPoints_j1 n a (i : Int) G 2
      else bif (decide ((240 : Int) ≤ ((b0 : Nat) : Int))) then bif (decide (((b0 : Nat) : Int) ≤ (244 : Int))) then rPoints_j1 n a (i : Int) G 3 else some false else some false
     else bif (decide ((240 : Int) ≤ ((b0 : Nat) : Int))) then bif (decide (((b0 : Nat) : Int) ≤ (244 : Int))) then rPoints_j1 n a (i : Int) G 3 else some false else some false) =
     (match (if 224 ≤ b0 ∧ b0 ≤ 239 then (if 2 < a.length - i ∧ loB b0 ≤ (a.getD (i + 1) 0).toNat ∧ (a.getD (i + 1) 0).toNat ≤ hiE b0 ∧ 128 ≤ (a.getD (i + 2) 0).toNat ∧ (a.getD (i + 2) 0).toNat < 192 then some 2 else none)
      else if 240 ≤ b0 ∧ b0 ≤ 244 then (if 3 < a.length - i ∧ loB b0 ≤ (a.getD (i + 1) 0).toNat ∧ (a.getD (i + 1) 0).toNat ≤ hiE b0 ∧ 128 ≤ (a.getD (i + 2) 0).toNat ∧ (a.getD (i + 2) 0).toNat < 192 ∧ 128 ≤ (a.getD (i + 3) 0).toNat ∧ (a.getD (i + 3) 0).toNat < 192 then some 3 else none)
      else none : Option Nat) with | none => some false | some k => G ((i + (k + 1) : Nat) : Int)) := by
    by_cases c2 : 224 ≤ b0 ∧ b0 ≤ 239
    ·rw [ite_t (decide_eq_true (by omega)), ite_t (decide_eq_true (by omega)), if_pos c2, j2']
     by_cases c3 : 2 < a.length - i ∧ loB b0 ≤ (a.getD (i + 1) 0).toNat ∧ (a.getD (i + 1) 0).toNat ≤ hiE b0 ∧ 128 ≤ (a.getD (i + 2) 0).toNat ∧ (a.getD (i + 2) 0).toNat < 192
     ·rw [if_pos c3, if_pos ⟨by omega, .inr ⟨c3.2.1, c3.2.2.1⟩, fun q h1 h2 => by
       obtain rfl : q = 2 := by omega
       exact l2.2 c3.2.2.2⟩]
     ·rw [if_neg c3, if_neg (fun h => c3 (by have h2 := l2.1 (h.2.2 2 (by omega) (by omega)); have := h.1; have := h.2.1; omega))]
    ·by_cases c3 : 240 ≤ b0 ∧ b0 ≤ 244
     ·rw [ite_t (decide_eq_true (by omega)), ite_f (decide_eq_false (by omega)), ite_t (decide_eq_true (by omega)), ite_t (decide_eq_true (by omega)), if_neg c2, if_pos c3, j3']
      by_cases c4 : 3 < a.length - i ∧ loB b0 ≤ (a.getD (i + 1) 0).toNat ∧ (a.getD (i + 1) 0).toNat ≤ hiE b0 ∧ 128 ≤ (a.getD (i + 2) 0).toNat ∧ (a.getD (i + 2) 0).toNat < 192 ∧ 128 ≤ (a.getD (i + 3) 0).toNat ∧ (a.getD (i + 3) 0).toNat < 192
      ·rw [if_pos c4, if_pos ⟨by omega, .inr ⟨c4.2.1, c4.2.2.1⟩, fun q h1 h2 => by
        rcases (show q = 2 ∨ q = 3 by omega) with rfl | rfl
        ·exact l2.2 ⟨c4.2.2.2.1, c4.2.2.2.2.1⟩
        ·exact l3.2 c4.2.2.2.2.2⟩]
      ·rw [if_neg c4, if_neg (fun h => c4 (by have h2 := l2.1 (h.2.2 2 (by omega) (by omega)); have h3 := l3.1 (h.2.2 3 (by omega) (by omega)); have := h.1; have := h.2.1; omega))]
     ·rw [if_neg c2, if_neg c3]
      by_cases c4 : 224 ≤ b0
      ·rw [ite_t (decide_eq_true (by omega)), ite_f (decide_eq_false (by omega)), ite_t (decide_eq_true (by omega)), ite_f (decide_eq_false (by omega))]
      ·rw [ite_f (decide_eq_false (by omega)), ite_f (decide_eq_false (by omega))]
   by_cases c2 : 194 ≤ b0
   ·rw [ite_t (decide_eq_true (by omega)), ite_f (decide_eq_false (by omega))]
    exact step2
   ·rw [ite_f (decide_eq_false (by omega))]
    exact step2
theorem points_eq {n : Nat} (hn : 100 ≤ n) (a : List UInt8) (ha : a.length ≤ 100000) : ∀ (m i f g : Nat), a.length ≤ i + m → m < f → m < g → rPoints_l1 n a f (i : Int) = some (ptsFrom ⟨a.toArray⟩ g i) := by
 intro m
 induction m with
 | zero =>
  intro i f g hi hf hg
  cases f with
  | zero => omega
  | succ f =>
   cases g with
   | zero => omega
   | succ g => rw [rPoints_l1, ite_f (decide_eq_false (by omega)), ptsFrom, if_neg (by show ¬ i < a.length; omega)]
 | succ m ih =>
  intro i f g hi hf hg
  cases f with
  | zero => omega
  | succ f =>
   cases g with
   | zero => omega
   | succ g =>
    by_cases hlt : i < a.length
    ·rw [pt_step hn a ha f i hlt, pts_step a g i hlt]
     cases stp3 a i with
     | none => rfl
     | some k => exact ih (i + (k + 1)) f g (by omega) (by omega) (by omega)
    ·rw [rPoints_l1, ite_f (decide_eq_false (by omega)), ptsFrom, if_neg (by show ¬ i < a.length; omega)]
theorem rPoints_is {n : Nat} (a : List UInt8) (ha : a.length ≤ 2000) (hn : 3000 ≤ n) : rPoints n a = some (ptsF a) :=
 points_eq (by omega) a (by omega) a.length 0 n (a.length + 1) (by omega) (by omega) (by omega)
end Go.Sx
end
section
namespace Go.Sx
open Go Go.RowKit Go.Ch Go.Proofs.Ytliilihbnhdemaa
theorem up8_t : pup 3000 = some true := by decide +kernel
theorem lTexts_is (mk : UInt8) (a : List UInt8) : lTexts 3000 mk a = some true := by
 unfold lTexts
 rw [up8_t, Option.bind_some]
 by_cases h0 : 2000 < a.length
 ·rw [ite_t (decide_eq_true (by omega))]
 rw [ite_f (decide_eq_false (by omega))]
 by_cases h12 : mk = 12
 ·subst h12
  have e1 : pText 3000 12 a = some (if ptsF a = true then none else some 2) := by
   unfold pText
   rw [ite_t (by rfl), gd_pos (by omega)]
   unfold pText_j1
   cases ptsF a <;> rfl
  have e2 : rText 3000 12 a = some (ptsF a) := by
   unfold rText
   rw [ite_t (by rfl), rPoints_is a (by omega) (by decide)]; rfl
  rw [e1, Option.bind_some, e2]
  cases ptsF a <;> simp [gd_pos]
 ·by_cases h19 : mk = 19
  ·subst h19
   have e1 : pText 3000 19 a = some (if (!(a.any prtN)) = true then none else some 2) := by
    unfold pText
    rw [ite_f (by rfl), ite_t (by rfl)]
    unfold pText_j1
    cases a.any prtN <;> rfl
   have e2 : rText 3000 19 a = some (!(a.any prtN)) := by
    unfold rText
    rw [ite_f (by rfl)]
    have := rText_l1_is (n := 3000) (by decide) (mk := 19) (a := a) (by omega) (.inl rfl) a.length 0 3000 (by omega) (by omega)
    rw [List.drop_zero, if_pos rfl] at this
    exact this
   rw [e1, Option.bind_some, e2]
   cases a.any prtN <;> simp [gd_pos]
  ·by_cases h22 : mk = 22
   ·subst h22
    have e1 : pText 3000 22 a = some (if (!(a.any hiB)) = true then none else some 2) := by
     unfold pText
     rw [ite_f (by rfl), ite_f (by rfl), ite_t (by rfl)]
     unfold pText_j1
     cases a.any hiB <;> rfl
    have e2 : rText 3000 22 a = some (!(a.any hiB)) := by
     unfold rText
     rw [ite_f (by rfl)]
     have := rText_l1_is (n := 3000) (by decide) (mk := 22) (a := a) (by omega) (.inr rfl) a.length 0 3000 (by omega) (by omega)
     rw [List.drop_zero, if_neg (by decide)] at this
     exact this
    rw [e1, Option.bind_some, e2]
    cases a.any hiB <;> simp [gd_pos]
   ·have e1 : pText 3000 mk a = some (some 1) := by
     unfold pText
     rw [ite_f (beq_eq_false_iff_ne.2 h12), ite_f (beq_eq_false_iff_ne.2 h19), ite_f (beq_eq_false_iff_ne.2 h22)]
    rw [e1, Option.bind_some, ite_t (bne_iff_ne.2 h12), ite_t (bne_iff_ne.2 h19), ite_t (bne_iff_ne.2 h22)]
    simp [gd_pos]
end Go.Sx
end
section
namespace Go.Sx
open Go Go.RowKit Go.Ch Go.Proofs.Ytliilihbnhdemaa
end Go.Sx
namespace Go.Proofs.Ytliilihbnhdemaa
open Go.RowKit Go.Ch Go.Sx
theorem primTexts_c (w : World) (n0 : Int) (hn0 : (Lit.int .u8 n0).wf = true) (B1 : Nat) (v1 : Value) (l1 : List UInt8) (hv1 : Sl w B1 v1 (l1.map bU)) :
  Calls Try.prog 8 #[.int .u8 n0, v1] w (Ret fun v' w' => Ext w w' ∧ v' = .bool true) := by
 obtain ⟨x0, rfl⟩ : ∃ x : UInt8, n0 = ((x.toNat : Nat) : Int) := ⟨UInt8.ofNat n0.toNat, by simp [Lit.wf, IntKind.min, IntKind.max, IntKind.signed, IntKind.bits] at hn0; simp; omega⟩
 obtain ⟨p1, a1, b1⟩ := in_b hv1 5
 exact law_of (lTexts_ok 3000 true) (args := [.c (.s (.u8 x0)), .c (.wh 0)]) (H := [⟨.ro false, 5, 1, l1.length, .b l1⟩]) (ρ := plL [p1]) (vals := [.int .u8 ((x0.toNat : Nat) : Int), v1]) rfl (allP_cons.2 ⟨lTexts_is x0 l1, allP_nil⟩) trivial (hpL (ps := [p1]) (F2.cons b1 F2.nil)) (F2.cons rfl (F2.cons a1 F2.nil))
end Go.Proofs.Ytliilihbnhdemaa
end
