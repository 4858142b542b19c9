import Derived.Test.YtamddohbpdbdmaaDoorZ6
import Derived.Test.YtamddohbpdbdmaaDoorProg
section
set_option linter.unusedVariables false
set_option linter.unusedSimpArgs false
namespace Go.Proofs.YtamddohbpdbdmaaDoor
open Go.RowKit Go.Ch Go.Sx
def tabL_ms : List (TypeId × Ti) := [(3, ⟨.int .i64, 1, 8, true, some [.int .i64]⟩),
  (5, ⟨.int .u8, 1, 1, true, some [.int .u8]⟩),
  (22, ⟨.sl 5, 1, 24, false, some [.nils]⟩),
  (27, ⟨.sl 28, 1, 24, false, some [.nils]⟩),
  (28, ⟨.int .u32, 1, 4, true, some [.int .u32]⟩),
  (29, ⟨.arr 8 28, 8, 32, true, some [.int .u32, .int .u32, .int .u32, .int .u32, .int .u32, .int .u32, .int .u32, .int .u32]⟩),
  (31, ⟨.st [(27, 0), (29, 1)], 9, 56, false, some [.nils, .int .u32, .int .u32, .int .u32, .int .u32, .int .u32, .int .u32, .int .u32, .int .u32]⟩)]
def tab_ms : Tab := fun t => (tabL_ms).lookup t
theorem tabE_ms : (tabL_ms.map fun p => tiOf Tryd.prog p.1) = tabL_ms.map fun p => some p.2 := by kernel_rfl
theorem tabO_ms : TabOk Tryd.prog tab_ms := tab_of tabE_ms
def rMark_j2 (n : Nat) (a0_0 : List UInt32) (a0_1_0 : UInt32) (a0_1_1 : UInt32) (a0_1_2 : UInt32) (a0_1_3 : UInt32) (a0_1_4 : UInt32) (a0_1_5 : UInt32) (a0_1_6 : UInt32) (a0_1_7 : UInt32) (a2 : List UInt8) (l7_2 : List UInt8) (l8_2 : List UInt8) (l9_2 : List UInt8) (i10_2 : Int) (k_l1 : (List UInt8) → (List UInt8) → Int → Option (List UInt8)) (b11_8 : UInt8) : Option (List UInt8) :=
  gd (rmB (l8_2.length + 1) 1) <|
  gd (rmB (l9_2.length + 1) 1) <|
  gd (okI .i64 (i10_2 + 1)) <|
  k_l1 (l8_2 ++ [(b11_8 ^^^ (54 : UInt8))]) (l9_2 ++ [(b11_8 ^^^ (92 : UInt8))]) (i10_2 + 1)
def rMark_l1 (n : Nat) (a0_0 : List UInt32) (a0_1_0 : UInt32) (a0_1_1 : UInt32) (a0_1_2 : UInt32) (a0_1_3 : UInt32) (a0_1_4 : UInt32) (a0_1_5 : UInt32) (a0_1_6 : UInt32) (a0_1_7 : UInt32) (a2 : List UInt8) (l7_2 : List UInt8) : Nat → List UInt8 → List UInt8 → Int → Option (List UInt8)
  | 0, _, _, _ => none
  | fu_l1 + 1, l8_2, l9_2, i10_2 =>
    bif (decide (i10_2 < (64 : Int))) then
      bif (decide (i10_2 < ((l7_2.length : Nat) : Int))) then
        gd (0 ≤ i10_2) <|
        gd (i10_2 < ((l7_2.length : Nat) : Int)) <|
        rMark_j2 n a0_0 a0_1_0 a0_1_1 a0_1_2 a0_1_3 a0_1_4 a0_1_5 a0_1_6 a0_1_7 a2 l7_2 l8_2 l9_2 i10_2 (rMark_l1 n a0_0 a0_1_0 a0_1_1 a0_1_2 a0_1_3 a0_1_4 a0_1_5 a0_1_6 a0_1_7 a2 l7_2 fu_l1) (l7_2.getD i10_2.toNat 0)
      else
        rMark_j2 n a0_0 a0_1_0 a0_1_1 a0_1_2 a0_1_3 a0_1_4 a0_1_5 a0_1_6 a0_1_7 a2 l7_2 l8_2 l9_2 i10_2 (rMark_l1 n a0_0 a0_1_0 a0_1_1 a0_1_2 a0_1_3 a0_1_4 a0_1_5 a0_1_6 a0_1_7 a2 l7_2 fu_l1) 0
    else
      gd (rmB (l8_2.length + a2.length) 1) <|
      (refsum n a0_0 a0_1_0 a0_1_1 a0_1_2 a0_1_3 a0_1_4 a0_1_5 a0_1_6 a0_1_7 (l8_2 ++ a2)).bind fun r47_2 =>
      gd (rmB (l9_2.length + r47_2.length) 1) <|
      (refsum n a0_0 a0_1_0 a0_1_1 a0_1_2 a0_1_3 a0_1_4 a0_1_5 a0_1_6 a0_1_7 (l9_2 ++ r47_2)).bind fun r49_2 =>
      some r49_2
def rMark_j1 (n : Nat) (a0_0 : List UInt32) (a0_1_0 : UInt32) (a0_1_1 : UInt32) (a0_1_2 : UInt32) (a0_1_3 : UInt32) (a0_1_4 : UInt32) (a0_1_5 : UInt32) (a0_1_6 : UInt32) (a0_1_7 : UInt32) (a2 : List UInt8) (l7_2 : List UInt8) : Option (List UInt8) :=
  rMark_l1 n a0_0 a0_1_0 a0_1_1 a0_1_2 a0_1_3 a0_1_4 a0_1_5 a0_1_6 a0_1_7 a2 l7_2 n [] [] 0
def rMark (n : Nat) (a0_0 : List UInt32) (a0_1_0 : UInt32) (a0_1_1 : UInt32) (a0_1_2 : UInt32) (a0_1_3 : UInt32) (a0_1_4 : UInt32) (a0_1_5 : UInt32) (a0_1_6 : UInt32) (a0_1_7 : UInt32) (a1 : List UInt8) (a2 : List UInt8) : Option (List UInt8) :=
  bif (decide ((64 : Int) < ((a1.length : Nat) : Int))) then
    (refsum n a0_0 a0_1_0 a0_1_1 a0_1_2 a0_1_3 a0_1_4 a0_1_5 a0_1_6 a0_1_7 a1).bind fun r18 =>
    rMark_j1 n a0_0 a0_1_0 a0_1_1 a0_1_2 a0_1_3 a0_1_4 a0_1_5 a0_1_6 a0_1_7 a2 r18
  else
    rMark_j1 n a0_0 a0_1_0 a0_1_1 a0_1_2 a0_1_3 a0_1_4 a0_1_5 a0_1_6 a0_1_7 a2 a1
def rDerive_l3 (n : Nat) (a0_0 : List UInt32) (a0_1_0 : UInt32) (a0_1_1 : UInt32) (a0_1_2 : UInt32) (a0_1_3 : UInt32) (a0_1_4 : UInt32) (a0_1_5 : UInt32) (a0_1_6 : UInt32) (a0_1_7 : UInt32) (a1 : List UInt8) (a2 : List UInt8) (a3 : Int) (a4 : Int) (l11_2 : List UInt8) (i12_2 : Int) (r38_3 : List UInt8) (i16_8 : Int) (r50_12 : List UInt8) (k_l2 : (List UInt8) → (List UInt8) → Int → Option (List UInt8 × Nat)) : Nat → List UInt8 → Int → Option (List UInt8 × Nat)
  | 0, _, _ => none
  | fu_l3 + 1, l15_35, i17_26 =>
    bif (decide (i17_26 < (32 : Int))) then
      gd (0 ≤ i17_26) <|
      gd (i17_26 < ((([] ++ r38_3).length : Nat) : Int)) <|
      gd (0 ≤ i17_26) <|
      gd (i17_26 < ((r50_12.length : Nat) : Int)) <|
      gd (0 ≤ i17_26) <|
      gd (i17_26 < ((([] ++ r38_3).length : Nat) : Int)) <|
      gd (okI .i64 (i17_26 + 1)) <|
      (rDerive_l3 n a0_0 a0_1_0 a0_1_1 a0_1_2 a0_1_3 a0_1_4 a0_1_5 a0_1_6 a0_1_7 a1 a2 a3 a4 l11_2 i12_2 r38_3 i16_8 r50_12 k_l2 fu_l3) (l15_35.set i17_26.toNat ((l15_35.getD i17_26.toNat 0) ^^^ (r50_12.getD i17_26.toNat 0))) (i17_26 + 1)
    else
      gd (okI .i64 (i16_8 + 1)) <|
      k_l2 r50_12 l15_35 (i16_8 + 1)
def rDerive_l2 (n : Nat) (a0_0 : List UInt32) (a0_1_0 : UInt32) (a0_1_1 : UInt32) (a0_1_2 : UInt32) (a0_1_3 : UInt32) (a0_1_4 : UInt32) (a0_1_5 : UInt32) (a0_1_6 : UInt32) (a0_1_7 : UInt32) (a1 : List UInt8) (a2 : List UInt8) (a3 : Int) (a4 : Int) (l11_2 : List UInt8) (i12_2 : Int) (r38_3 : List UInt8) (k_l1 : (List UInt8) → Int → Option (List UInt8 × Nat)) : Nat → List UInt8 → List UInt8 → Int → Option (List UInt8 × Nat)
  | 0, _, _, _ => none
  | fu_l2 + 1, l14_8, l15_33, i16_8 =>
    bif (decide (i16_8 < a3)) then
      (rMark n a0_0 a0_1_0 a0_1_1 a0_1_2 a0_1_3 a0_1_4 a0_1_5 a0_1_6 a0_1_7 a1 l14_8).bind fun r50_12 =>
      rDerive_l3 n a0_0 a0_1_0 a0_1_1 a0_1_2 a0_1_3 a0_1_4 a0_1_5 a0_1_6 a0_1_7 a1 a2 a3 a4 l11_2 i12_2 r38_3 i16_8 r50_12 (rDerive_l2 n a0_0 a0_1_0 a0_1_1 a0_1_2 a0_1_3 a0_1_4 a0_1_5 a0_1_6 a0_1_7 a1 a2 a3 a4 l11_2 i12_2 r38_3 k_l1 fu_l2) n l15_33 0
    else
      gd (rmB (l11_2.length + (([] ++ r38_3).length)) 1) <|
      gd (okI .i64 (i12_2 + 1)) <|
      k_l1 (l11_2 ++ l15_33) (i12_2 + 1)
def rDerive_l1 (n : Nat) (a0_0 : List UInt32) (a0_1_0 : UInt32) (a0_1_1 : UInt32) (a0_1_2 : UInt32) (a0_1_3 : UInt32) (a0_1_4 : UInt32) (a0_1_5 : UInt32) (a0_1_6 : UInt32) (a0_1_7 : UInt32) (a1 : List UInt8) (a2 : List UInt8) (a3 : Int) (a4 : Int) : Nat → List UInt8 → Int → Option (List UInt8 × Nat)
  | 0, _, _ => none
  | fu_l1 + 1, l11_2, i12_2 =>
    bif (decide (((l11_2.length : Nat) : Int) < a4)) then
      gd (rmB (0 + a2.length) 1) <|
      gd ((256 : Int) ≠ 0) <|
      gd (okI .i64 (Int.tdiv i12_2 256)) <|
      gd ((256 : Int) ≠ 0) <|
      gd (rmB ((([] ++ a2).length) + 4) 1) <|
      (rMark n a0_0 a0_1_0 a0_1_1 a0_1_2 a0_1_3 a0_1_4 a0_1_5 a0_1_6 a0_1_7 a1 (([] ++ a2) ++ [0, 0, (UInt8.ofInt (Int.tdiv i12_2 256)), (UInt8.ofInt (Int.tmod i12_2 256))])).bind fun r38_3 =>
      gd (rmB (0 + r38_3.length) 1) <|
      rDerive_l2 n a0_0 a0_1_0 a0_1_1 a0_1_2 a0_1_3 a0_1_4 a0_1_5 a0_1_6 a0_1_7 a1 a2 a3 a4 l11_2 i12_2 r38_3 (rDerive_l1 n a0_0 a0_1_0 a0_1_1 a0_1_2 a0_1_3 a0_1_4 a0_1_5 a0_1_6 a0_1_7 a1 a2 a3 a4 fu_l1) n r38_3 ([] ++ r38_3) 1
    else
      gd (0 ≤ a4) <|
      gd (a4 ≤ ((l11_2.length : Nat) : Int)) <|
      some (((l11_2.drop 0).take a4.toNat), a4.toNat)
def rDerive (n : Nat) (a0_0 : List UInt32) (a0_1_0 : UInt32) (a0_1_1 : UInt32) (a0_1_2 : UInt32) (a0_1_3 : UInt32) (a0_1_4 : UInt32) (a0_1_5 : UInt32) (a0_1_6 : UInt32) (a0_1_7 : UInt32) (a1 : List UInt8) (a2 : List UInt8) (a3 : Int) (a4 : Int) : Option (List UInt8 × Nat) :=
  rDerive_l1 n a0_0 a0_1_0 a0_1_1 a0_1_2 a0_1_3 a0_1_4 a0_1_5 a0_1_6 a0_1_7 a1 a2 a3 a4 n [] 1
def rMark_j2_E (a0_0 : List UInt32) (a0_1_0 : UInt32) (a0_1_1 : UInt32) (a0_1_2 : UInt32) (a0_1_3 : UInt32) (a0_1_4 : UInt32) (a0_1_5 : UInt32) (a0_1_6 : UInt32) (a0_1_7 : UInt32) (a2 : List UInt8) (l7_2 : List UInt8) (l8_2 : List UInt8) (l9_2 : List UInt8) (i10_2 : Int) (b11_8 : UInt8) : S := ⟨[(2, .c (.wh 0)), (3, .c (.pt 1 0)), (7, .c (.wh 3)), (8, .c (.wh 4)), (9, .c (.wh 5)), (10, .c (.s (.k .i64 i10_2))), (11, .c (.s (.u8 b11_8)))], [], [⟨(.ro false), 5, 1, a2.length, .b a2⟩, ⟨.blk, 31, 1, 9, .c [.wh 2, .s (.u32 a0_1_0), .s (.u32 a0_1_1), .s (.u32 a0_1_2), .s (.u32 a0_1_3), .s (.u32 a0_1_4), .s (.u32 a0_1_5), .s (.u32 a0_1_6), .s (.u32 a0_1_7)]⟩, ⟨(.ro false), 28, 1, a0_0.length, .w a0_0⟩, ⟨(.ro false), 5, 1, l7_2.length, .b l7_2⟩, ⟨.row, 5, 1, l8_2.length, .b l8_2⟩, ⟨.row, 5, 1, l9_2.length, .b l9_2⟩]⟩
def rMark_j2_P (n : Nat) (a0_0 : List UInt32) (a0_1_0 : UInt32) (a0_1_1 : UInt32) (a0_1_2 : UInt32) (a0_1_3 : UInt32) (a0_1_4 : UInt32) (a0_1_5 : UInt32) (a0_1_6 : UInt32) (a0_1_7 : UInt32) (a2 : List UInt8) (l7_2 : List UInt8) (l8_2 : List UInt8) (l9_2 : List UInt8) (i10_2 : Int) (k_l1 : (List UInt8) → (List UInt8) → Int → Option (List UInt8)) (r : List UInt8) : S → Prop := fun s => ∃ (b11_8 : UInt8), s = rMark_j2_E a0_0 a0_1_0 a0_1_1 a0_1_2 a0_1_3 a0_1_4 a0_1_5 a0_1_6 a0_1_7 a2 l7_2 l8_2 l9_2 i10_2 b11_8 ∧ rMark_j2 n a0_0 a0_1_0 a0_1_1 a0_1_2 a0_1_3 a0_1_4 a0_1_5 a0_1_6 a0_1_7 a2 l7_2 l8_2 l9_2 i10_2 k_l1 b11_8 = some r
theorem rMark_j2_M {n : Nat} {a0_0 : List UInt32} {a0_1_0 : UInt32} {a0_1_1 : UInt32} {a0_1_2 : UInt32} {a0_1_3 : UInt32} {a0_1_4 : UInt32} {a0_1_5 : UInt32} {a0_1_6 : UInt32} {a0_1_7 : UInt32} {a2 : List UInt8} {l7_2 : List UInt8} {l8_2 : List UInt8} {l9_2 : List UInt8} {i10_2 : Int} {k_l1 : (List UInt8) → (List UInt8) → Int → Option (List UInt8)} {b11_8 : UInt8} {r : List UInt8} (h : rMark_j2 n a0_0 a0_1_0 a0_1_1 a0_1_2 a0_1_3 a0_1_4 a0_1_5 a0_1_6 a0_1_7 a2 l7_2 l8_2 l9_2 i10_2 k_l1 b11_8 = some r) : rMark_j2_P n a0_0 a0_1_0 a0_1_1 a0_1_2 a0_1_3 a0_1_4 a0_1_5 a0_1_6 a0_1_7 a2 l7_2 l8_2 l9_2 i10_2 k_l1 r (rMark_j2_E a0_0 a0_1_0 a0_1_1 a0_1_2 a0_1_3 a0_1_4 a0_1_5 a0_1_6 a0_1_7 a2 l7_2 l8_2 l9_2 i10_2 b11_8) := ⟨b11_8, rfl, h⟩
def rMark_l1_E (a0_0 : List UInt32) (a0_1_0 : UInt32) (a0_1_1 : UInt32) (a0_1_2 : UInt32) (a0_1_3 : UInt32) (a0_1_4 : UInt32) (a0_1_5 : UInt32) (a0_1_6 : UInt32) (a0_1_7 : UInt32) (a2 : List UInt8) (l7_2 : List UInt8) (l8_2 : List UInt8) (l9_2 : List UInt8) (i10_2 : Int) : S := ⟨[(2, .c (.wh 0)), (3, .c (.pt 1 0)), (7, .c (.wh 3)), (8, .c (.wh 4)), (9, .c (.wh 5)), (10, .c (.s (.k .i64 i10_2)))], [], [⟨(.ro false), 5, 1, a2.length, .b a2⟩, ⟨.blk, 31, 1, 9, .c [.wh 2, .s (.u32 a0_1_0), .s (.u32 a0_1_1), .s (.u32 a0_1_2), .s (.u32 a0_1_3), .s (.u32 a0_1_4), .s (.u32 a0_1_5), .s (.u32 a0_1_6), .s (.u32 a0_1_7)]⟩, ⟨(.ro false), 28, 1, a0_0.length, .w a0_0⟩, ⟨(.ro false), 5, 1, l7_2.length, .b l7_2⟩, ⟨.row, 5, 1, l8_2.length, .b l8_2⟩, ⟨.row, 5, 1, l9_2.length, .b l9_2⟩]⟩
def rMark_l1_P (n : Nat) (a0_0 : List UInt32) (a0_1_0 : UInt32) (a0_1_1 : UInt32) (a0_1_2 : UInt32) (a0_1_3 : UInt32) (a0_1_4 : UInt32) (a0_1_5 : UInt32) (a0_1_6 : UInt32) (a0_1_7 : UInt32) (a2 : List UInt8) (l7_2 : List UInt8) (r : List UInt8) (fu : Nat) : S → Prop := fun s => ∃ (l8_2 : List UInt8), ∃ (l9_2 : List UInt8), ∃ (i10_2 : Int), s = rMark_l1_E a0_0 a0_1_0 a0_1_1 a0_1_2 a0_1_3 a0_1_4 a0_1_5 a0_1_6 a0_1_7 a2 l7_2 l8_2 l9_2 i10_2 ∧ rMark_l1 n a0_0 a0_1_0 a0_1_1 a0_1_2 a0_1_3 a0_1_4 a0_1_5 a0_1_6 a0_1_7 a2 l7_2 fu l8_2 l9_2 i10_2 = some r
theorem rMark_l1_M {n : Nat} {a0_0 : List UInt32} {a0_1_0 : UInt32} {a0_1_1 : UInt32} {a0_1_2 : UInt32} {a0_1_3 : UInt32} {a0_1_4 : UInt32} {a0_1_5 : UInt32} {a0_1_6 : UInt32} {a0_1_7 : UInt32} {a2 : List UInt8} {l7_2 : List UInt8} {l8_2 : List UInt8} {l9_2 : List UInt8} {i10_2 : Int} {r : List UInt8} {fu : Nat} (h : rMark_l1 n a0_0 a0_1_0 a0_1_1 a0_1_2 a0_1_3 a0_1_4 a0_1_5 a0_1_6 a0_1_7 a2 l7_2 fu l8_2 l9_2 i10_2 = some r) : rMark_l1_P n a0_0 a0_1_0 a0_1_1 a0_1_2 a0_1_3 a0_1_4 a0_1_5 a0_1_6 a0_1_7 a2 l7_2 r fu (rMark_l1_E a0_0 a0_1_0 a0_1_1 a0_1_2 a0_1_3 a0_1_4 a0_1_5 a0_1_6 a0_1_7 a2 l7_2 l8_2 l9_2 i10_2) := ⟨l8_2, l9_2, i10_2, rfl, h⟩
def rMark_j1_E (a0_0 : List UInt32) (a0_1_0 : UInt32) (a0_1_1 : UInt32) (a0_1_2 : UInt32) (a0_1_3 : UInt32) (a0_1_4 : UInt32) (a0_1_5 : UInt32) (a0_1_6 : UInt32) (a0_1_7 : UInt32) (a2 : List UInt8) (l7_2 : List UInt8) : S := ⟨[(2, .c (.wh 0)), (3, .c (.pt 1 0)), (7, .c (.wh 3))], [], [⟨(.ro false), 5, 1, a2.length, .b a2⟩, ⟨.blk, 31, 1, 9, .c [.wh 2, .s (.u32 a0_1_0), .s (.u32 a0_1_1), .s (.u32 a0_1_2), .s (.u32 a0_1_3), .s (.u32 a0_1_4), .s (.u32 a0_1_5), .s (.u32 a0_1_6), .s (.u32 a0_1_7)]⟩, ⟨(.ro false), 28, 1, a0_0.length, .w a0_0⟩, ⟨(.ro false), 5, 1, l7_2.length, .b l7_2⟩]⟩
def rMark_j1_P (n : Nat) (a0_0 : List UInt32) (a0_1_0 : UInt32) (a0_1_1 : UInt32) (a0_1_2 : UInt32) (a0_1_3 : UInt32) (a0_1_4 : UInt32) (a0_1_5 : UInt32) (a0_1_6 : UInt32) (a0_1_7 : UInt32) (a2 : List UInt8) (r : List UInt8) : S → Prop := fun s => ∃ (l7_2 : List UInt8), s = rMark_j1_E a0_0 a0_1_0 a0_1_1 a0_1_2 a0_1_3 a0_1_4 a0_1_5 a0_1_6 a0_1_7 a2 l7_2 ∧ rMark_j1 n a0_0 a0_1_0 a0_1_1 a0_1_2 a0_1_3 a0_1_4 a0_1_5 a0_1_6 a0_1_7 a2 l7_2 = some r
theorem rMark_j1_M {n : Nat} {a0_0 : List UInt32} {a0_1_0 : UInt32} {a0_1_1 : UInt32} {a0_1_2 : UInt32} {a0_1_3 : UInt32} {a0_1_4 : UInt32} {a0_1_5 : UInt32} {a0_1_6 : UInt32} {a0_1_7 : UInt32} {a2 : List UInt8} {l7_2 : List UInt8} {r : List UInt8} (h : rMark_j1 n a0_0 a0_1_0 a0_1_1 a0_1_2 a0_1_3 a0_1_4 a0_1_5 a0_1_6 a0_1_7 a2 l7_2 = some r) : rMark_j1_P n a0_0 a0_1_0 a0_1_1 a0_1_2 a0_1_3 a0_1_4 a0_1_5 a0_1_6 a0_1_7 a2 r (rMark_j1_E a0_0 a0_1_0 a0_1_1 a0_1_2 a0_1_3 a0_1_4 a0_1_5 a0_1_6 a0_1_7 a2 l7_2) := ⟨l7_2, rfl, h⟩
def rMark_R (r : List UInt8) : S := ⟨[(6, .c (.wh 0))], [], [⟨.row, 5, 1, r.length, .b r⟩]⟩
def rMark_ct (n : Nat) (r : List UInt8) : Ct := fun args H => match args with
  | [x0, x1, x2] => (match aGc 9 x0 with | some y0 => (match aW H (.c (y0.getD 0 .junk)) with | some l0_0 => (match aU32 (.c (y0.getD 1 .junk)) with | some l0_1 => (match aU32 (.c (y0.getD 2 .junk)) with | some l0_2 => (match aU32 (.c (y0.getD 3 .junk)) with | some l0_3 => (match aU32 (.c (y0.getD 4 .junk)) with | some l0_4 => (match aU32 (.c (y0.getD 5 .junk)) with | some l0_5 => (match aU32 (.c (y0.getD 6 .junk)) with | some l0_6 => (match aU32 (.c (y0.getD 7 .junk)) with | some l0_7 => (match aU32 (.c (y0.getD 8 .junk)) with | some l0_8 => (match aB H x1 with | some l1 => (match aB H x2 with | some l2 => some ([rMark n l0_0 l0_1 l0_2 l0_3 l0_4 l0_5 l0_6 l0_7 l0_8 l1 l2 = some r], shA H.length (.c (.wh 0)), shH H.length [⟨.row, 5, 1, r.length, .b r⟩]) | none => none) | none => none) | none => none) | none => none) | none => none) | none => none) | none => none) | none => none) | none => none) | none => none) | none => none) | none => none)
  | _ => none
theorem rMark_ok (n : Nat) (r : List UInt8) : FnOk Tryd.prog Tr 12 (rMark_ct n r) := by
  refine ⟨fun args H g av objs hF hg ρ w vals hG hp ha => ?_, _, Tryd.func12, by kernel_rfl, by kernel_rfl⟩
  obtain ⟨x0, x1, x2, rfl⟩ : ∃ x0 x1 x2, args = [x0, x1, x2] := by
    unfold rMark_ct at hF; split at hF
    · exact ⟨_, _, _, rfl⟩
    · cases hF
  cases e0 : aGc 9 x0 with
  | none => simp only [rMark_ct, e0, reduceCtorEq] at hF
  | some y0 =>
  cases e1 : aW H (.c (y0.getD 0 .junk)) with
  | none => simp only [rMark_ct, e0, e1, reduceCtorEq] at hF
  | some l0_0 =>
  cases e2 : aU32 (.c (y0.getD 1 .junk)) with
  | none => simp only [rMark_ct, e0, e1, e2, reduceCtorEq] at hF
  | some l0_1 =>
  cases e3 : aU32 (.c (y0.getD 2 .junk)) with
  | none => simp only [rMark_ct, e0, e1, e2, e3, reduceCtorEq] at hF
  | some l0_2 =>
  cases e4 : aU32 (.c (y0.getD 3 .junk)) with
  | none => simp only [rMark_ct, e0, e1, e2, e3, e4, reduceCtorEq] at hF
  | some l0_3 =>
  cases e5 : aU32 (.c (y0.getD 4 .junk)) with
  | none => simp only [rMark_ct, e0, e1, e2, e3, e4, e5, reduceCtorEq] at hF
  | some l0_4 =>
  cases e6 : aU32 (.c (y0.getD 5 .junk)) with
  | none => simp only [rMark_ct, e0, e1, e2, e3, e4, e5, e6, reduceCtorEq] at hF
  | some l0_5 =>
  cases e7 : aU32 (.c (y0.getD 6 .junk)) with
  | none => simp only [rMark_ct, e0, e1, e2, e3, e4, e5, e6, e7, reduceCtorEq] at hF
  | some l0_6 =>
  cases e8 : aU32 (.c (y0.getD 7 .junk)) with
  | none => simp only [rMark_ct, e0, e1, e2, e3, e4, e5, e6, e7, e8, reduceCtorEq] at hF
  | some l0_7 =>
  cases e9 : aU32 (.c (y0.getD 8 .junk)) with
  | none => simp only [rMark_ct, e0, e1, e2, e3, e4, e5, e6, e7, e8, e9, reduceCtorEq] at hF
  | some l0_8 =>
  cases e10 : aB H x1 with
  | none => simp only [rMark_ct, e0, e1, e2, e3, e4, e5, e6, e7, e8, e9, e10, reduceCtorEq] at hF
  | some l1 =>
  cases e11 : aB H x2 with
  | none => simp only [rMark_ct, e0, e1, e2, e3, e4, e5, e6, e7, e8, e9, e10, e11, reduceCtorEq] at hF
  | some l2 =>
  simp only [rMark_ct, e0, e1, e2, e3, e4, e5, e6, e7, e8, e9, e10, e11, Option.some.injEq, Prod.mk.injEq] at hF
  obtain ⟨rfl, rfl, rfl⟩ := hF
  obtain ⟨v0, vals, rfl, k0, ha⟩ := F2.inv ha
  obtain ⟨v1, vals, rfl, k1, ha⟩ := F2.inv ha
  obtain ⟨v2, vals, rfl, k2, ha⟩ := F2.inv ha
  obtain rfl := F2.inv0 ha
  have hI : ∀ w', Kp (noB (fun _ => undef)) w w' → Tr w' := fun _ hk => Tr.keep hk.below hG
  have h : rMark n l0_0 l0_1 l0_2 l0_3 l0_4 l0_5 l0_6 l0_7 l0_8 l1 l2 = some r := hg
  obtain ⟨vs0, hn0, rfl, hy0⟩ := aGc_ok e0 k0
  obtain ⟨p0_0, s0_0, o0_0⟩ := aW_ok hp e1 (hy0 0 (by decide)) 28
  have s0_1 := aU32_ok e2 (hy0 1 (by decide))
  have s0_2 := aU32_ok e3 (hy0 2 (by decide))
  have s0_3 := aU32_ok e4 (hy0 3 (by decide))
  have s0_4 := aU32_ok e5 (hy0 4 (by decide))
  have s0_5 := aU32_ok e6 (hy0 5 (by decide))
  have s0_6 := aU32_ok e7 (hy0 6 (by decide))
  have s0_7 := aU32_ok e8 (hy0 7 (by decide))
  have s0_8 := aU32_ok e9 (hy0 8 (by decide))
  obtain ⟨p1, s1, o1⟩ := aB_ok hp e10 (k1) 5
  obtain ⟨p2, s2, o2⟩ := aB_ok hp e11 (k2) 5
  have hR0 := rel0 (gv := (fun _ => undef)) (n := 50) (w := w) (args := [.g 9 (.c [.wh 0, .s (.u32 l0_1), .s (.u32 l0_2), .s (.u32 l0_3), .s (.u32 l0_4), .s (.u32 l0_5), .s (.u32 l0_6), .s (.u32 l0_7), .s (.u32 l0_8)]), .c (.wh 1), .c (.wh 2)]) (H := [⟨.ro false, 28, 1, l0_0.length, .w l0_0⟩, ⟨.ro false, 5, 1, l1.length, .b l1⟩, ⟨.ro false, 5, 1, l2.length, .b l2⟩]) (gl := []) (hpL (ps := [p0_0, p1, p2]) (F2.cons o0_0 (F2.cons o1 (F2.cons o2 F2.nil)))) (allRo_ok rfl) (F2.cons ⟨vs0, (by rw [lstE undef hn0]; exact (F2.cons s0_0 (F2.cons s0_1 (F2.cons s0_2 (F2.cons s0_3 (F2.cons s0_4 (F2.cons s0_5 (F2.cons s0_6 (F2.cons s0_7 (F2.cons s0_8 F2.nil)))))))))), hn0, rfl⟩ (F2.cons s1 (F2.cons s2 F2.nil))) GlR.nil (by simp)
  clear ha hp hg k0 k1 k2 e0 e1 e2 e3 e4 e5 e6 e7 e8 e9 e10 e11
  refine calls_W Tryd.func12 rfl rfl hR0 (Q := fun e s => (e = .ret ∨ e = .normal) ∧ s = rMark_R r) ?_ ?_
  · clear hR0
    unfold rMark at h
    have hT := tabO_ms
    refine W_seq ?_
    refine W_reg hT ftL_nil [] [] [1, 2, 3] [1, 2, 3, 0] (s' := ⟨[(1, .c (.wh 0)), (2, .c (.wh 1)), (3, .c (.pt 2 0))], [], [⟨(.ro false), 5, 1, l1.length, .b l1⟩, ⟨(.ro false), 5, 1, l2.length, .b l2⟩, ⟨.blk, 31, 1, 9, .c [.wh 3, .s (.u32 l0_1), .s (.u32 l0_2), .s (.u32 l0_3), .s (.u32 l0_4), .s (.u32 l0_5), .s (.u32 l0_6), .s (.u32 l0_7), .s (.u32 l0_8)]⟩, ⟨(.ro false), 28, 1, l0_0.length, .w l0_0⟩]⟩) (by kernel_rfl) allP_nil ?_
    refine W_seq ?_
    refine W_reg hT ftL_nil [] [] [2, 3, 7] [1, 2, 3, 0] (s' := ⟨[(2, .c (.wh 0)), (3, .c (.pt 1 0)), (7, .c (.wh 3))], [], [⟨(.ro false), 5, 1, l2.length, .b l2⟩, ⟨.blk, 31, 1, 9, .c [.wh 2, .s (.u32 l0_1), .s (.u32 l0_2), .s (.u32 l0_3), .s (.u32 l0_4), .s (.u32 l0_5), .s (.u32 l0_6), .s (.u32 l0_7), .s (.u32 l0_8)]⟩, ⟨(.ro false), 28, 1, l0_0.length, .w l0_0⟩, ⟨(.ro false), 5, 1, l1.length, .b l1⟩]⟩) (by kernel_rfl) allP_nil ?_
    refine W_join (rMark_j1_P n l0_0 l0_1 l0_2 l0_3 l0_4 l0_5 l0_6 l0_7 l0_8 l2 r) ?_ ?_
    · rintro _ ⟨l7_2, rfl, h⟩
      unfold rMark_j1 at h
      refine W_seq ?_
      refine W_reg hT ftL_nil [] [] [2, 3, 7, 8] [0, 1, 2, 3] (s' := ⟨[(2, .c (.wh 0)), (3, .c (.pt 1 0)), (7, .c (.wh 3)), (8, .c (.nils))], [], [⟨(.ro false), 5, 1, l2.length, .b l2⟩, ⟨.blk, 31, 1, 9, .c [.wh 2, .s (.u32 l0_1), .s (.u32 l0_2), .s (.u32 l0_3), .s (.u32 l0_4), .s (.u32 l0_5), .s (.u32 l0_6), .s (.u32 l0_7), .s (.u32 l0_8)]⟩, ⟨(.ro false), 28, 1, l0_0.length, .w l0_0⟩, ⟨(.ro false), 5, 1, l7_2.length, .b l7_2⟩]⟩) (by kernel_rfl) allP_nil ?_
      refine W_seq ?_
      refine W_reg hT ftL_nil [] [] [2, 3, 7, 8, 9] [0, 1, 2, 3] (s' := ⟨[(2, .c (.wh 0)), (3, .c (.pt 1 0)), (7, .c (.wh 3)), (8, .c (.nils)), (9, .c (.nils))], [], [⟨(.ro false), 5, 1, l2.length, .b l2⟩, ⟨.blk, 31, 1, 9, .c [.wh 2, .s (.u32 l0_1), .s (.u32 l0_2), .s (.u32 l0_3), .s (.u32 l0_4), .s (.u32 l0_5), .s (.u32 l0_6), .s (.u32 l0_7), .s (.u32 l0_8)]⟩, ⟨(.ro false), 28, 1, l0_0.length, .w l0_0⟩, ⟨(.ro false), 5, 1, l7_2.length, .b l7_2⟩]⟩) (by kernel_rfl) allP_nil ?_
      refine W_seq ?_
      refine W_seq ?_
      refine W_reg hT ftL_nil [] [] [2, 3, 7, 8, 9, 10] [0, 1, 2, 3] (s' := ⟨[(2, .c (.wh 0)), (3, .c (.pt 1 0)), (7, .c (.wh 3)), (8, .c (.nils)), (9, .c (.nils)), (10, .c (.s (.k .i64 0)))], [], [⟨(.ro false), 5, 1, l2.length, .b l2⟩, ⟨.blk, 31, 1, 9, .c [.wh 2, .s (.u32 l0_1), .s (.u32 l0_2), .s (.u32 l0_3), .s (.u32 l0_4), .s (.u32 l0_5), .s (.u32 l0_6), .s (.u32 l0_7), .s (.u32 l0_8)]⟩, ⟨(.ro false), 28, 1, l0_0.length, .w l0_0⟩, ⟨(.ro false), 5, 1, l7_2.length, .b l7_2⟩]⟩) (by kernel_rfl) allP_nil ?_
      refine W_block ?_
      refine W_co [.nil 8 5 1 (.b []), .nil 9 5 1 (.b [])] [2, 3, 7, 8, 9, 10] [0, 1, 2, 3, 4, 5] (s' := (rMark_l1_E l0_0 l0_1 l0_2 l0_3 l0_4 l0_5 l0_6 l0_7 l0_8 l2 l7_2 [] [] 0)) (by kernel_rfl) (W_lp ((rMark_l1_P n l0_0 l0_1 l0_2 l0_3 l0_4 l0_5 l0_6 l0_7 l0_8 l2 l7_2 r)) n (rMark_l1_M h) ?_)
      rintro fu_l1 _ ⟨l8_2, l9_2, i10_2, rfl, h⟩
      cases fu_l1 with
      | zero => cases h
      | succ fu_l1 =>
        refine ⟨fu_l1, rfl, ?_⟩
        rw [rMark_l1] at h
        refine W_seq ?_
        refine W_seq ?_
        refine W_reg hT ftL_nil [] [] [2, 3, 7, 8, 9, 10, 20] [0, 1, 2, 3, 4, 5] (s' := ⟨[(2, .c (.wh 0)), (3, .c (.pt 1 0)), (7, .c (.wh 3)), (8, .c (.wh 4)), (9, .c (.wh 5)), (10, .c (.s (.k .i64 i10_2))), (20, .c (.s (.b (decide (i10_2 < (64 : Int))))))], [], [⟨(.ro false), 5, 1, l2.length, .b l2⟩, ⟨.blk, 31, 1, 9, .c [.wh 2, .s (.u32 l0_1), .s (.u32 l0_2), .s (.u32 l0_3), .s (.u32 l0_4), .s (.u32 l0_5), .s (.u32 l0_6), .s (.u32 l0_7), .s (.u32 l0_8)]⟩, ⟨(.ro false), 28, 1, l0_0.length, .w l0_0⟩, ⟨(.ro false), 5, 1, l7_2.length, .b l7_2⟩, ⟨.row, 5, 1, l8_2.length, .b l8_2⟩, ⟨.row, 5, 1, l9_2.length, .b l9_2⟩]⟩) (by kernel_rfl) allP_nil ?_
        refine W_cond (b := (decide (i10_2 < (64 : Int)))) (by kernel_rfl) (fun g11 => ?_) (fun g11 => ?_)
        · replace h := bif_t h g11
          refine W_co [] [2, 3, 7, 8, 9, 10] [0, 1, 2, 3, 4, 5] (s' := ⟨[(2, .c (.wh 0)), (3, .c (.pt 1 0)), (7, .c (.wh 3)), (8, .c (.wh 4)), (9, .c (.wh 5)), (10, .c (.s (.k .i64 i10_2)))], [], [⟨(.ro false), 5, 1, l2.length, .b l2⟩, ⟨.blk, 31, 1, 9, .c [.wh 2, .s (.u32 l0_1), .s (.u32 l0_2), .s (.u32 l0_3), .s (.u32 l0_4), .s (.u32 l0_5), .s (.u32 l0_6), .s (.u32 l0_7), .s (.u32 l0_8)]⟩, ⟨(.ro false), 28, 1, l0_0.length, .w l0_0⟩, ⟨(.ro false), 5, 1, l7_2.length, .b l7_2⟩, ⟨.row, 5, 1, l8_2.length, .b l8_2⟩, ⟨.row, 5, 1, l9_2.length, .b l9_2⟩]⟩) (by kernel_rfl) (W_skip ?_)
          refine W_seq ?_
          refine W_block ?_
          refine W_seq ?_
          refine W_reg hT ftL_nil [] [] [2, 3, 7, 8, 9, 10, 11] [0, 1, 2, 3, 4, 5] (s' := ⟨[(2, .c (.wh 0)), (3, .c (.pt 1 0)), (7, .c (.wh 3)), (8, .c (.wh 4)), (9, .c (.wh 5)), (10, .c (.s (.k .i64 i10_2))), (11, .c (.s (.u8 0)))], [], [⟨(.ro false), 5, 1, l2.length, .b l2⟩, ⟨.blk, 31, 1, 9, .c [.wh 2, .s (.u32 l0_1), .s (.u32 l0_2), .s (.u32 l0_3), .s (.u32 l0_4), .s (.u32 l0_5), .s (.u32 l0_6), .s (.u32 l0_7), .s (.u32 l0_8)]⟩, ⟨(.ro false), 28, 1, l0_0.length, .w l0_0⟩, ⟨(.ro false), 5, 1, l7_2.length, .b l7_2⟩, ⟨.row, 5, 1, l8_2.length, .b l8_2⟩, ⟨.row, 5, 1, l9_2.length, .b l9_2⟩]⟩) (by kernel_rfl) allP_nil ?_
          refine W_join (rMark_j2_P n l0_0 l0_1 l0_2 l0_3 l0_4 l0_5 l0_6 l0_7 l0_8 l2 l7_2 l8_2 l9_2 i10_2 (rMark_l1 n l0_0 l0_1 l0_2 l0_3 l0_4 l0_5 l0_6 l0_7 l0_8 l2 l7_2 fu_l1) r) ?_ ?_
          · rintro _ ⟨b11_8, rfl, h⟩
            unfold rMark_j2 at h
            refine W_seq ?_
            obtain ⟨g1, h⟩ := gd_some h
            refine W_reg hT ftL_nil [] [] [2, 3, 7, 8, 9, 10, 11] [0, 1, 2, 3, 7, 5] (s' := ⟨[(2, .c (.wh 0)), (3, .c (.pt 1 0)), (7, .c (.wh 3)), (8, .c (.wh 4)), (9, .c (.wh 5)), (10, .c (.s (.k .i64 i10_2))), (11, .c (.s (.u8 b11_8)))], [], [⟨(.ro false), 5, 1, l2.length, .b l2⟩, ⟨.blk, 31, 1, 9, .c [.wh 2, .s (.u32 l0_1), .s (.u32 l0_2), .s (.u32 l0_3), .s (.u32 l0_4), .s (.u32 l0_5), .s (.u32 l0_6), .s (.u32 l0_7), .s (.u32 l0_8)]⟩, ⟨(.ro false), 28, 1, l0_0.length, .w l0_0⟩, ⟨(.ro false), 5, 1, l7_2.length, .b l7_2⟩, ⟨.row, 5, 1, (l8_2 ++ [(b11_8 ^^^ (54 : UInt8))]).length, .b (l8_2 ++ [(b11_8 ^^^ (54 : UInt8))])⟩, ⟨.row, 5, 1, l9_2.length, .b l9_2⟩]⟩) (by kernel_rfl) (allP_cons.2 ⟨g1, allP_nil⟩) ?_
            obtain ⟨g2, h⟩ := gd_some h
            refine W_reg hT ftL_nil [] [] [2, 3, 7, 8, 9, 10] [0, 1, 2, 3, 4, 7] (s' := ⟨[(2, .c (.wh 0)), (3, .c (.pt 1 0)), (7, .c (.wh 3)), (8, .c (.wh 4)), (9, .c (.wh 5)), (10, .c (.s (.k .i64 i10_2)))], [], [⟨(.ro false), 5, 1, l2.length, .b l2⟩, ⟨.blk, 31, 1, 9, .c [.wh 2, .s (.u32 l0_1), .s (.u32 l0_2), .s (.u32 l0_3), .s (.u32 l0_4), .s (.u32 l0_5), .s (.u32 l0_6), .s (.u32 l0_7), .s (.u32 l0_8)]⟩, ⟨(.ro false), 28, 1, l0_0.length, .w l0_0⟩, ⟨(.ro false), 5, 1, l7_2.length, .b l7_2⟩, ⟨.row, 5, 1, (l8_2 ++ [(b11_8 ^^^ (54 : UInt8))]).length, .b (l8_2 ++ [(b11_8 ^^^ (54 : UInt8))])⟩, ⟨.row, 5, 1, (l9_2 ++ [(b11_8 ^^^ (92 : UInt8))]).length, .b (l9_2 ++ [(b11_8 ^^^ (92 : UInt8))])⟩]⟩) (by kernel_rfl) (allP_cons.2 ⟨g2, allP_nil⟩) ?_
            obtain ⟨g3, h⟩ := gd_some h
            refine W_reg hT ftL_nil [] [] [2, 3, 7, 8, 9, 10] [0, 1, 2, 3, 4, 5] (s' := (rMark_l1_E l0_0 l0_1 l0_2 l0_3 l0_4 l0_5 l0_6 l0_7 l0_8 l2 l7_2 (l8_2 ++ [(b11_8 ^^^ (54 : UInt8))]) (l9_2 ++ [(b11_8 ^^^ (92 : UInt8))]) (i10_2 + 1))) (by kernel_rfl) (allP_cons.2 ⟨g3, allP_nil⟩) ?_
            exact rMark_l1_M h
          · refine W_seq ?_
            refine W_reg hT ftL_nil [] [] [2, 3, 7, 8, 9, 10, 11, 26] [0, 1, 2, 3, 4, 5] (s' := ⟨[(2, .c (.wh 0)), (3, .c (.pt 1 0)), (7, .c (.wh 3)), (8, .c (.wh 4)), (9, .c (.wh 5)), (10, .c (.s (.k .i64 i10_2))), (11, .c (.s (.u8 0))), (26, .c (.s (.b (decide (i10_2 < ((l7_2.length : Nat) : Int))))))], [], [⟨(.ro false), 5, 1, l2.length, .b l2⟩, ⟨.blk, 31, 1, 9, .c [.wh 2, .s (.u32 l0_1), .s (.u32 l0_2), .s (.u32 l0_3), .s (.u32 l0_4), .s (.u32 l0_5), .s (.u32 l0_6), .s (.u32 l0_7), .s (.u32 l0_8)]⟩, ⟨(.ro false), 28, 1, l0_0.length, .w l0_0⟩, ⟨(.ro false), 5, 1, l7_2.length, .b l7_2⟩, ⟨.row, 5, 1, l8_2.length, .b l8_2⟩, ⟨.row, 5, 1, l9_2.length, .b l9_2⟩]⟩) (by kernel_rfl) allP_nil ?_
            refine W_cond (b := (decide (i10_2 < ((l7_2.length : Nat) : Int)))) (by kernel_rfl) (fun g6 => ?_) (fun g6 => ?_)
            · replace h := bif_t h g6
              obtain ⟨g4, h⟩ := gd_some h
              obtain ⟨g5, h⟩ := gd_some h
              refine W_reg hT ftL_nil [] [] [2, 3, 7, 8, 9, 10, 11] [0, 1, 2, 3, 4, 5] (s' := (rMark_j2_E l0_0 l0_1 l0_2 l0_3 l0_4 l0_5 l0_6 l0_7 l0_8 l2 l7_2 l8_2 l9_2 i10_2 (l7_2.getD i10_2.toNat 0))) (by kernel_rfl) (allP_cons.2 ⟨g4, (allP_cons.2 ⟨g5, allP_nil⟩)⟩) ?_
              exact rMark_j2_M h
            · replace h := bif_f h g6
              refine W_co [] [2, 3, 7, 8, 9, 10, 11] [0, 1, 2, 3, 4, 5] (s' := (rMark_j2_E l0_0 l0_1 l0_2 l0_3 l0_4 l0_5 l0_6 l0_7 l0_8 l2 l7_2 l8_2 l9_2 i10_2 0)) (by kernel_rfl) (W_skip ?_)
              exact rMark_j2_M h
        · replace h := bif_f h g11
          refine W_co [] [2, 3, 8, 9] [0, 1, 2, 4, 5] (s' := ⟨[(2, .c (.wh 0)), (3, .c (.pt 1 0)), (8, .c (.wh 3)), (9, .c (.wh 4))], [], [⟨(.ro false), 5, 1, l2.length, .b l2⟩, ⟨.blk, 31, 1, 9, .c [.wh 2, .s (.u32 l0_1), .s (.u32 l0_2), .s (.u32 l0_3), .s (.u32 l0_4), .s (.u32 l0_5), .s (.u32 l0_6), .s (.u32 l0_7), .s (.u32 l0_8)]⟩, ⟨(.ro false), 28, 1, l0_0.length, .w l0_0⟩, ⟨.row, 5, 1, l8_2.length, .b l8_2⟩, ⟨.row, 5, 1, l9_2.length, .b l9_2⟩]⟩) (by kernel_rfl) (W_exit ?_)
          refine W_seq ?_
          obtain ⟨g7, h⟩ := gd_some h
          obtain ⟨r47_2, g8, h⟩ := bind_some' h
          obtain ⟨g9, h⟩ := gd_some h
          obtain ⟨r49_2, g10, h⟩ := bind_some' h
          refine W_regG hT (ftL_cons (k := 6) (f := 22) (F := (refsum_ct n r47_2)) (refsum_ok n r47_2) (fun _ _ => True.intro) (ftL_cons (k := 8) (f := 22) (F := (refsum_ct n r49_2)) (refsum_ok n r49_2) (fun _ _ => True.intro) ftL_nil)) (by kernel_rfl) [] [0, 1, 2, 3, 4, 9] [[0, 1, 2, 3, 4], [0, 1, 2, 3, 4, 5], [0, 1, 2, 3, 4, 5, 6], [0, 1, 2, 3, 4, 5, 6, 7], [0, 1, 2, 3, 4, 5, 6, 7, 8, 9]] [⟨[(2, .c (.wh 0)), (3, .c (.pt 1 0)), (8, .c (.wh 3)), (9, .c (.wh 4)), (41, .g 9 (.c [.wh 2, .s (.u32 l0_1), .s (.u32 l0_2), .s (.u32 l0_3), .s (.u32 l0_4), .s (.u32 l0_5), .s (.u32 l0_6), .s (.u32 l0_7), .s (.u32 l0_8)])), (42, .c (.wh 4)), (43, .g 9 (.c [.wh 2, .s (.u32 l0_1), .s (.u32 l0_2), .s (.u32 l0_3), .s (.u32 l0_4), .s (.u32 l0_5), .s (.u32 l0_6), .s (.u32 l0_7), .s (.u32 l0_8)])), (44, .c (.wh 3)), (45, .c (.wh 0))], [], [⟨(.ro false), 5, 1, l2.length, .b l2⟩, ⟨.blk, 31, 1, 9, .c [.wh 2, .s (.u32 l0_1), .s (.u32 l0_2), .s (.u32 l0_3), .s (.u32 l0_4), .s (.u32 l0_5), .s (.u32 l0_6), .s (.u32 l0_7), .s (.u32 l0_8)]⟩, ⟨(.ro false), 28, 1, l0_0.length, .w l0_0⟩, ⟨.row, 5, 1, l8_2.length, .b l8_2⟩, ⟨.row, 5, 1, l9_2.length, .b l9_2⟩]⟩, ⟨[(3, .c (.pt 0 0)), (9, .c (.wh 2)), (41, .g 9 (.c [.wh 1, .s (.u32 l0_1), .s (.u32 l0_2), .s (.u32 l0_3), .s (.u32 l0_4), .s (.u32 l0_5), .s (.u32 l0_6), .s (.u32 l0_7), .s (.u32 l0_8)])), (42, .c (.wh 2)), (43, .g 9 (.c [.wh 1, .s (.u32 l0_1), .s (.u32 l0_2), .s (.u32 l0_3), .s (.u32 l0_4), .s (.u32 l0_5), .s (.u32 l0_6), .s (.u32 l0_7), .s (.u32 l0_8)])), (46, .c (.wh 3))], [], [⟨.blk, 31, 1, 9, .c [.wh 1, .s (.u32 l0_1), .s (.u32 l0_2), .s (.u32 l0_3), .s (.u32 l0_4), .s (.u32 l0_5), .s (.u32 l0_6), .s (.u32 l0_7), .s (.u32 l0_8)]⟩, ⟨(.ro false), 28, 1, l0_0.length, .w l0_0⟩, ⟨.row, 5, 1, l9_2.length, .b l9_2⟩, ⟨.row, 5, 1, (l8_2 ++ l2).length, .b (l8_2 ++ l2)⟩]⟩, ⟨[(3, .c (.pt 0 0)), (9, .c (.wh 2)), (41, .g 9 (.c [.wh 1, .s (.u32 l0_1), .s (.u32 l0_2), .s (.u32 l0_3), .s (.u32 l0_4), .s (.u32 l0_5), .s (.u32 l0_6), .s (.u32 l0_7), .s (.u32 l0_8)])), (42, .c (.wh 2)), (47, .c (.wh 3))], [], [⟨.blk, 31, 1, 9, .c [.wh 1, .s (.u32 l0_1), .s (.u32 l0_2), .s (.u32 l0_3), .s (.u32 l0_4), .s (.u32 l0_5), .s (.u32 l0_6), .s (.u32 l0_7), .s (.u32 l0_8)]⟩, ⟨(.ro false), 28, 1, l0_0.length, .w l0_0⟩, ⟨.row, 5, 1, l9_2.length, .b l9_2⟩, ⟨.row, 5, 1, r47_2.length, .b r47_2⟩]⟩, ⟨[(3, .c (.pt 0 0)), (41, .g 9 (.c [.wh 1, .s (.u32 l0_1), .s (.u32 l0_2), .s (.u32 l0_3), .s (.u32 l0_4), .s (.u32 l0_5), .s (.u32 l0_6), .s (.u32 l0_7), .s (.u32 l0_8)])), (48, .c (.wh 2))], [], [⟨.blk, 31, 1, 9, .c [.wh 1, .s (.u32 l0_1), .s (.u32 l0_2), .s (.u32 l0_3), .s (.u32 l0_4), .s (.u32 l0_5), .s (.u32 l0_6), .s (.u32 l0_7), .s (.u32 l0_8)]⟩, ⟨(.ro false), 28, 1, l0_0.length, .w l0_0⟩, ⟨.row, 5, 1, (l9_2 ++ r47_2).length, .b (l9_2 ++ r47_2)⟩]⟩, ⟨[(6, .c (.wh 0)), (49, .c (.wh 0))], [], [⟨.row, 5, 1, r49_2.length, .b r49_2⟩]⟩] [0, 1, 2, 3, 4] [⟨0, 5, 1, [], [], [3, 9, 41, 42, 43, 46], [1, 2, 4, 5]⟩, ⟨1, 6, 2, [], [], [3, 9, 41, 42, 47], [0, 1, 2, 4]⟩, ⟨2, 7, 3, [], [], [3, 41, 48], [0, 1, 4]⟩, ⟨3, 8, 4, [9], [], [6, 49], [3]⟩] [(0, 0), (0, 1), (0, 2), (0, 3), (0, 4), (1, 0), (1, 1), (1, 2), (2, 0), (2, 1), (3, 0), (4, 9)] 4 [2, 3, 8, 9, 41, 42, 43, 44, 45] [0, 1, 2, 3, 4] [] [6] [0] (s' := ⟨[(6, .c (.wh 0))], [], [⟨.row, 5, 1, r49_2.length, .b r49_2⟩]⟩) (by kernel_rfl) ⟨_, (by kernel_rfl), allP_nil⟩ (AllE.cons ⟨_, (by kernel_rfl), (allP_cons.2 ⟨g7, allP_nil⟩)⟩ (AllE.cons ⟨_, (by kernel_rfl), (allP_cons.2 ⟨g8, allP_nil⟩)⟩ (AllE.cons ⟨_, (by kernel_rfl), (allP_cons.2 ⟨g9, allP_nil⟩)⟩ (AllE.cons ⟨_, (by kernel_rfl), (allP_cons.2 ⟨g10, allP_nil⟩)⟩ AllE.nil)))) (AllR.cons ⟨_, (by kernel_rfl), allP_nil⟩ (AllR.cons ⟨_, (by kernel_rfl), allP_nil⟩ (AllR.cons ⟨_, (by kernel_rfl), allP_nil⟩ (AllR.cons ⟨_, (by kernel_rfl), allP_nil⟩ (AllR.cons ⟨_, (by kernel_rfl), allP_nil⟩ (AllR.cons ⟨_, (by kernel_rfl), allP_nil⟩ (AllR.cons ⟨_, (by kernel_rfl), allP_nil⟩ (AllR.cons ⟨_, (by kernel_rfl), allP_nil⟩ (AllR.cons ⟨_, (by kernel_rfl), allP_nil⟩ (AllR.cons ⟨_, (by kernel_rfl), allP_nil⟩ (AllR.cons ⟨_, (by kernel_rfl), allP_nil⟩ (AllR.cons ⟨_, (by kernel_rfl), allP_nil⟩ AllR.nil)))))))))))) (by kernel_rfl) ?_
          refine W_co [] [6] [0] (s' := (rMark_R r49_2)) (by kernel_rfl) (W_ret ?_)
          exact ⟨.inl rfl, by cases h; rfl⟩
    · refine W_seq ?_
      refine W_reg hT ftL_nil [] [] [2, 3, 7, 15] [0, 1, 2, 3] (s' := ⟨[(2, .c (.wh 0)), (3, .c (.pt 1 0)), (7, .c (.wh 3)), (15, .c (.s (.b (decide ((64 : Int) < ((l1.length : Nat) : Int))))))], [], [⟨(.ro false), 5, 1, l2.length, .b l2⟩, ⟨.blk, 31, 1, 9, .c [.wh 2, .s (.u32 l0_1), .s (.u32 l0_2), .s (.u32 l0_3), .s (.u32 l0_4), .s (.u32 l0_5), .s (.u32 l0_6), .s (.u32 l0_7), .s (.u32 l0_8)]⟩, ⟨(.ro false), 28, 1, l0_0.length, .w l0_0⟩, ⟨(.ro false), 5, 1, l1.length, .b l1⟩]⟩) (by kernel_rfl) allP_nil ?_
      refine W_cond (b := (decide ((64 : Int) < ((l1.length : Nat) : Int)))) (by kernel_rfl) (fun g13 => ?_) (fun g13 => ?_)
      · replace h := bif_t h g13
        obtain ⟨r18, g12, h⟩ := bind_some' h
        refine W_reg hT (ftL_cons (k := 2) (f := 22) (F := (refsum_ct n r18)) (refsum_ok n r18) (fun _ _ => True.intro) ftL_nil) [] [.vw 7 false] [2, 3, 7] [0, 1, 2, 5] (s' := (rMark_j1_E l0_0 l0_1 l0_2 l0_3 l0_4 l0_5 l0_6 l0_7 l0_8 l2 r18)) (by kernel_rfl) (allP_cons.2 ⟨g12, allP_nil⟩) ?_
        exact rMark_j1_M h
      · replace h := bif_f h g13
        refine W_co [] [2, 3, 7] [0, 1, 2, 3] (s' := (rMark_j1_E l0_0 l0_1 l0_2 l0_3 l0_4 l0_5 l0_6 l0_7 l0_8 l2 l1)) (by kernel_rfl) (W_skip ?_)
        exact rMark_j1_M h
  · rintro e s' ⟨he, rfl⟩
    refine ⟨he, fun a' w' hr => ?_⟩
    exact retS_ok tabO_ms hr (rs := [.tmp 6]) rfl (objs := [0]) (by kernel_rfl)
def rDerive_l3_E (a0_0 : List UInt32) (a0_1_0 : UInt32) (a0_1_1 : UInt32) (a0_1_2 : UInt32) (a0_1_3 : UInt32) (a0_1_4 : UInt32) (a0_1_5 : UInt32) (a0_1_6 : UInt32) (a0_1_7 : UInt32) (a1 : List UInt8) (a2 : List UInt8) (a3 : Int) (a4 : Int) (l11_2 : List UInt8) (i12_2 : Int) (r38_3 : List UInt8) (i16_8 : Int) (r50_12 : List UInt8) (l15_35 : List UInt8) (i17_26 : Int) : S := ⟨[(1, .c (.wh 0)), (2, .c (.wh 1)), (3, .c (.s (.k .i64 a3))), (4, .c (.s (.k .i64 a4))), (5, .c (.pt 2 0)), (11, .c (.wh 4)), (12, .c (.s (.k .i64 i12_2))), (14, .c (.wh 5)), (15, .c (.wh 6)), (16, .c (.s (.k .i64 i16_8))), (17, .c (.s (.k .i64 i17_26)))], [], [⟨(.ro false), 5, 1, a1.length, .b a1⟩, ⟨(.ro false), 5, 1, a2.length, .b a2⟩, ⟨.blk, 31, 1, 9, .c [.wh 3, .s (.u32 a0_1_0), .s (.u32 a0_1_1), .s (.u32 a0_1_2), .s (.u32 a0_1_3), .s (.u32 a0_1_4), .s (.u32 a0_1_5), .s (.u32 a0_1_6), .s (.u32 a0_1_7)]⟩, ⟨(.ro false), 28, 1, a0_0.length, .w a0_0⟩, ⟨.row, 5, 1, l11_2.length, .b l11_2⟩, ⟨.row, 5, 1, r50_12.length, .b r50_12⟩, ⟨.row, 5, 1, ([] ++ r38_3).length, .b l15_35⟩]⟩
def rDerive_l3_P (n : Nat) (a0_0 : List UInt32) (a0_1_0 : UInt32) (a0_1_1 : UInt32) (a0_1_2 : UInt32) (a0_1_3 : UInt32) (a0_1_4 : UInt32) (a0_1_5 : UInt32) (a0_1_6 : UInt32) (a0_1_7 : UInt32) (a1 : List UInt8) (a2 : List UInt8) (a3 : Int) (a4 : Int) (l11_2 : List UInt8) (i12_2 : Int) (r38_3 : List UInt8) (i16_8 : Int) (r50_12 : List UInt8) (k_l2 : (List UInt8) → (List UInt8) → Int → Option (List UInt8 × Nat)) (r : List UInt8 × Nat) (fu : Nat) : S → Prop := fun s => ∃ (l15_35 : List UInt8), ∃ (i17_26 : Int), s = rDerive_l3_E a0_0 a0_1_0 a0_1_1 a0_1_2 a0_1_3 a0_1_4 a0_1_5 a0_1_6 a0_1_7 a1 a2 a3 a4 l11_2 i12_2 r38_3 i16_8 r50_12 l15_35 i17_26 ∧ rDerive_l3 n a0_0 a0_1_0 a0_1_1 a0_1_2 a0_1_3 a0_1_4 a0_1_5 a0_1_6 a0_1_7 a1 a2 a3 a4 l11_2 i12_2 r38_3 i16_8 r50_12 k_l2 fu l15_35 i17_26 = some r
theorem rDerive_l3_M {n : Nat} {a0_0 : List UInt32} {a0_1_0 : UInt32} {a0_1_1 : UInt32} {a0_1_2 : UInt32} {a0_1_3 : UInt32} {a0_1_4 : UInt32} {a0_1_5 : UInt32} {a0_1_6 : UInt32} {a0_1_7 : UInt32} {a1 : List UInt8} {a2 : List UInt8} {a3 : Int} {a4 : Int} {l11_2 : List UInt8} {i12_2 : Int} {r38_3 : List UInt8} {i16_8 : Int} {r50_12 : List UInt8} {k_l2 : (List UInt8) → (List UInt8) → Int → Option (List UInt8 × Nat)} {l15_35 : List UInt8} {i17_26 : Int} {r : List UInt8 × Nat} {fu : Nat} (h : rDerive_l3 n a0_0 a0_1_0 a0_1_1 a0_1_2 a0_1_3 a0_1_4 a0_1_5 a0_1_6 a0_1_7 a1 a2 a3 a4 l11_2 i12_2 r38_3 i16_8 r50_12 k_l2 fu l15_35 i17_26 = some r) : rDerive_l3_P n a0_0 a0_1_0 a0_1_1 a0_1_2 a0_1_3 a0_1_4 a0_1_5 a0_1_6 a0_1_7 a1 a2 a3 a4 l11_2 i12_2 r38_3 i16_8 r50_12 k_l2 r fu (rDerive_l3_E a0_0 a0_1_0 a0_1_1 a0_1_2 a0_1_3 a0_1_4 a0_1_5 a0_1_6 a0_1_7 a1 a2 a3 a4 l11_2 i12_2 r38_3 i16_8 r50_12 l15_35 i17_26) := ⟨l15_35, i17_26, rfl, h⟩
def rDerive_l2_E (a0_0 : List UInt32) (a0_1_0 : UInt32) (a0_1_1 : UInt32) (a0_1_2 : UInt32) (a0_1_3 : UInt32) (a0_1_4 : UInt32) (a0_1_5 : UInt32) (a0_1_6 : UInt32) (a0_1_7 : UInt32) (a1 : List UInt8) (a2 : List UInt8) (a3 : Int) (a4 : Int) (l11_2 : List UInt8) (i12_2 : Int) (r38_3 : List UInt8) (l14_8 : List UInt8) (l15_33 : List UInt8) (i16_8 : Int) : S := ⟨[(1, .c (.wh 0)), (2, .c (.wh 1)), (3, .c (.s (.k .i64 a3))), (4, .c (.s (.k .i64 a4))), (5, .c (.pt 2 0)), (11, .c (.wh 4)), (12, .c (.s (.k .i64 i12_2))), (14, .c (.wh 5)), (15, .c (.wh 6)), (16, .c (.s (.k .i64 i16_8)))], [], [⟨(.ro false), 5, 1, a1.length, .b a1⟩, ⟨(.ro false), 5, 1, a2.length, .b a2⟩, ⟨.blk, 31, 1, 9, .c [.wh 3, .s (.u32 a0_1_0), .s (.u32 a0_1_1), .s (.u32 a0_1_2), .s (.u32 a0_1_3), .s (.u32 a0_1_4), .s (.u32 a0_1_5), .s (.u32 a0_1_6), .s (.u32 a0_1_7)]⟩, ⟨(.ro false), 28, 1, a0_0.length, .w a0_0⟩, ⟨.row, 5, 1, l11_2.length, .b l11_2⟩, ⟨.row, 5, 1, l14_8.length, .b l14_8⟩, ⟨.row, 5, 1, ([] ++ r38_3).length, .b l15_33⟩]⟩
def rDerive_l2_P (n : Nat) (a0_0 : List UInt32) (a0_1_0 : UInt32) (a0_1_1 : UInt32) (a0_1_2 : UInt32) (a0_1_3 : UInt32) (a0_1_4 : UInt32) (a0_1_5 : UInt32) (a0_1_6 : UInt32) (a0_1_7 : UInt32) (a1 : List UInt8) (a2 : List UInt8) (a3 : Int) (a4 : Int) (l11_2 : List UInt8) (i12_2 : Int) (r38_3 : List UInt8) (k_l1 : (List UInt8) → Int → Option (List UInt8 × Nat)) (r : List UInt8 × Nat) (fu : Nat) : S → Prop := fun s => ∃ (l14_8 : List UInt8), ∃ (l15_33 : List UInt8), ∃ (i16_8 : Int), s = rDerive_l2_E a0_0 a0_1_0 a0_1_1 a0_1_2 a0_1_3 a0_1_4 a0_1_5 a0_1_6 a0_1_7 a1 a2 a3 a4 l11_2 i12_2 r38_3 l14_8 l15_33 i16_8 ∧ rDerive_l2 n a0_0 a0_1_0 a0_1_1 a0_1_2 a0_1_3 a0_1_4 a0_1_5 a0_1_6 a0_1_7 a1 a2 a3 a4 l11_2 i12_2 r38_3 k_l1 fu l14_8 l15_33 i16_8 = some r
theorem rDerive_l2_M {n : Nat} {a0_0 : List UInt32} {a0_1_0 : UInt32} {a0_1_1 : UInt32} {a0_1_2 : UInt32} {a0_1_3 : UInt32} {a0_1_4 : UInt32} {a0_1_5 : UInt32} {a0_1_6 : UInt32} {a0_1_7 : UInt32} {a1 : List UInt8} {a2 : List UInt8} {a3 : Int} {a4 : Int} {l11_2 : List UInt8} {i12_2 : Int} {r38_3 : List UInt8} {k_l1 : (List UInt8) → Int → Option (List UInt8 × Nat)} {l14_8 : List UInt8} {l15_33 : List UInt8} {i16_8 : Int} {r : List UInt8 × Nat} {fu : Nat} (h : rDerive_l2 n a0_0 a0_1_0 a0_1_1 a0_1_2 a0_1_3 a0_1_4 a0_1_5 a0_1_6 a0_1_7 a1 a2 a3 a4 l11_2 i12_2 r38_3 k_l1 fu l14_8 l15_33 i16_8 = some r) : rDerive_l2_P n a0_0 a0_1_0 a0_1_1 a0_1_2 a0_1_3 a0_1_4 a0_1_5 a0_1_6 a0_1_7 a1 a2 a3 a4 l11_2 i12_2 r38_3 k_l1 r fu (rDerive_l2_E a0_0 a0_1_0 a0_1_1 a0_1_2 a0_1_3 a0_1_4 a0_1_5 a0_1_6 a0_1_7 a1 a2 a3 a4 l11_2 i12_2 r38_3 l14_8 l15_33 i16_8) := ⟨l14_8, l15_33, i16_8, rfl, h⟩
def rDerive_l1_E (a0_0 : List UInt32) (a0_1_0 : UInt32) (a0_1_1 : UInt32) (a0_1_2 : UInt32) (a0_1_3 : UInt32) (a0_1_4 : UInt32) (a0_1_5 : UInt32) (a0_1_6 : UInt32) (a0_1_7 : UInt32) (a1 : List UInt8) (a2 : List UInt8) (a3 : Int) (a4 : Int) (l11_2 : List UInt8) (i12_2 : Int) : S := ⟨[(1, .c (.wh 0)), (2, .c (.wh 1)), (3, .c (.s (.k .i64 a3))), (4, .c (.s (.k .i64 a4))), (5, .c (.pt 2 0)), (11, .c (.wh 4)), (12, .c (.s (.k .i64 i12_2)))], [], [⟨(.ro false), 5, 1, a1.length, .b a1⟩, ⟨(.ro false), 5, 1, a2.length, .b a2⟩, ⟨.blk, 31, 1, 9, .c [.wh 3, .s (.u32 a0_1_0), .s (.u32 a0_1_1), .s (.u32 a0_1_2), .s (.u32 a0_1_3), .s (.u32 a0_1_4), .s (.u32 a0_1_5), .s (.u32 a0_1_6), .s (.u32 a0_1_7)]⟩, ⟨(.ro false), 28, 1, a0_0.length, .w a0_0⟩, ⟨.row, 5, 1, l11_2.length, .b l11_2⟩]⟩
def rDerive_l1_P (n : Nat) (a0_0 : List UInt32) (a0_1_0 : UInt32) (a0_1_1 : UInt32) (a0_1_2 : UInt32) (a0_1_3 : UInt32) (a0_1_4 : UInt32) (a0_1_5 : UInt32) (a0_1_6 : UInt32) (a0_1_7 : UInt32) (a1 : List UInt8) (a2 : List UInt8) (a3 : Int) (a4 : Int) (r : List UInt8 × Nat) (fu : Nat) : S → Prop := fun s => ∃ (l11_2 : List UInt8), ∃ (i12_2 : Int), s = rDerive_l1_E a0_0 a0_1_0 a0_1_1 a0_1_2 a0_1_3 a0_1_4 a0_1_5 a0_1_6 a0_1_7 a1 a2 a3 a4 l11_2 i12_2 ∧ rDerive_l1 n a0_0 a0_1_0 a0_1_1 a0_1_2 a0_1_3 a0_1_4 a0_1_5 a0_1_6 a0_1_7 a1 a2 a3 a4 fu l11_2 i12_2 = some r
theorem rDerive_l1_M {n : Nat} {a0_0 : List UInt32} {a0_1_0 : UInt32} {a0_1_1 : UInt32} {a0_1_2 : UInt32} {a0_1_3 : UInt32} {a0_1_4 : UInt32} {a0_1_5 : UInt32} {a0_1_6 : UInt32} {a0_1_7 : UInt32} {a1 : List UInt8} {a2 : List UInt8} {a3 : Int} {a4 : Int} {l11_2 : List UInt8} {i12_2 : Int} {r : List UInt8 × Nat} {fu : Nat} (h : rDerive_l1 n a0_0 a0_1_0 a0_1_1 a0_1_2 a0_1_3 a0_1_4 a0_1_5 a0_1_6 a0_1_7 a1 a2 a3 a4 fu l11_2 i12_2 = some r) : rDerive_l1_P n a0_0 a0_1_0 a0_1_1 a0_1_2 a0_1_3 a0_1_4 a0_1_5 a0_1_6 a0_1_7 a1 a2 a3 a4 r fu (rDerive_l1_E a0_0 a0_1_0 a0_1_1 a0_1_2 a0_1_3 a0_1_4 a0_1_5 a0_1_6 a0_1_7 a1 a2 a3 a4 l11_2 i12_2) := ⟨l11_2, i12_2, rfl, h⟩
def rDerive_R (r : List UInt8 × Nat) : S := ⟨[(10, .c (.wh 0))], [], [⟨(.ro true), 5, 1, r.2, .b r.1⟩]⟩
def rDerive_ct (n : Nat) (r : List UInt8 × Nat) : Ct := fun args H => match args with
  | [x0, x1, x2, x3, x4] => (match aGc 9 x0 with | some y0 => (match aW H (.c (y0.getD 0 .junk)) with | some l0_0 => (match aU32 (.c (y0.getD 1 .junk)) with | some l0_1 => (match aU32 (.c (y0.getD 2 .junk)) with | some l0_2 => (match aU32 (.c (y0.getD 3 .junk)) with | some l0_3 => (match aU32 (.c (y0.getD 4 .junk)) with | some l0_4 => (match aU32 (.c (y0.getD 5 .junk)) with | some l0_5 => (match aU32 (.c (y0.getD 6 .junk)) with | some l0_6 => (match aU32 (.c (y0.getD 7 .junk)) with | some l0_7 => (match aU32 (.c (y0.getD 8 .junk)) with | some l0_8 => (match aB H x1 with | some l1 => (match aB H x2 with | some l2 => (match aI x3 with | some l3 => (match aI x4 with | some l4 => some ([rDerive n l0_0 l0_1 l0_2 l0_3 l0_4 l0_5 l0_6 l0_7 l0_8 l1 l2 l3 l4 = some r], shA H.length (.c (.wh 0)), shH H.length [⟨(.ro true), 5, 1, r.2, .b r.1⟩]) | none => none) | none => none) | none => none) | none => none) | none => none) | none => none) | none => none) | none => none) | none => none) | none => none) | none => none) | none => none) | none => none) | none => none)
  | _ => none
theorem rDerive_ok (n : Nat) (r : List UInt8 × Nat) : FnOk Tryd.prog Tr 15 (rDerive_ct n r) := by
  refine ⟨fun args H g av objs hF hg ρ w vals hG hp ha => ?_, _, Tryd.func15, by kernel_rfl, by kernel_rfl⟩
  obtain ⟨x0, x1, x2, x3, x4, rfl⟩ : ∃ x0 x1 x2 x3 x4, args = [x0, x1, x2, x3, x4] := by
    unfold rDerive_ct at hF; split at hF
    · exact ⟨_, _, _, _, _, rfl⟩
    · cases hF
  cases e0 : aGc 9 x0 with
  | none => simp only [rDerive_ct, e0, reduceCtorEq] at hF
  | some y0 =>
  cases e1 : aW H (.c (y0.getD 0 .junk)) with
  | none => simp only [rDerive_ct, e0, e1, reduceCtorEq] at hF
  | some l0_0 =>
  cases e2 : aU32 (.c (y0.getD 1 .junk)) with
  | none => simp only [rDerive_ct, e0, e1, e2, reduceCtorEq] at hF
  | some l0_1 =>
  cases e3 : aU32 (.c (y0.getD 2 .junk)) with
  | none => simp only [rDerive_ct, e0, e1, e2, e3, reduceCtorEq] at hF
  | some l0_2 =>
  cases e4 : aU32 (.c (y0.getD 3 .junk)) with
  | none => simp only [rDerive_ct, e0, e1, e2, e3, e4, reduceCtorEq] at hF
  | some l0_3 =>
  cases e5 : aU32 (.c (y0.getD 4 .junk)) with
  | none => simp only [rDerive_ct, e0, e1, e2, e3, e4, e5, reduceCtorEq] at hF
  | some l0_4 =>
  cases e6 : aU32 (.c (y0.getD 5 .junk)) with
  | none => simp only [rDerive_ct, e0, e1, e2, e3, e4, e5, e6, reduceCtorEq] at hF
  | some l0_5 =>
  cases e7 : aU32 (.c (y0.getD 6 .junk)) with
  | none => simp only [rDerive_ct, e0, e1, e2, e3, e4, e5, e6, e7, reduceCtorEq] at hF
  | some l0_6 =>
  cases e8 : aU32 (.c (y0.getD 7 .junk)) with
  | none => simp only [rDerive_ct, e0, e1, e2, e3, e4, e5, e6, e7, e8, reduceCtorEq] at hF
  | some l0_7 =>
  cases e9 : aU32 (.c (y0.getD 8 .junk)) with
  | none => simp only [rDerive_ct, e0, e1, e2, e3, e4, e5, e6, e7, e8, e9, reduceCtorEq] at hF
  | some l0_8 =>
  cases e10 : aB H x1 with
  | none => simp only [rDerive_ct, e0, e1, e2, e3, e4, e5, e6, e7, e8, e9, e10, reduceCtorEq] at hF
  | some l1 =>
  cases e11 : aB H x2 with
  | none => simp only [rDerive_ct, e0, e1, e2, e3, e4, e5, e6, e7, e8, e9, e10, e11, reduceCtorEq] at hF
  | some l2 =>
  cases e12 : aI x3 with
  | none => simp only [rDerive_ct, e0, e1, e2, e3, e4, e5, e6, e7, e8, e9, e10, e11, e12, reduceCtorEq] at hF
  | some l3 =>
  cases e13 : aI x4 with
  | none => simp only [rDerive_ct, e0, e1, e2, e3, e4, e5, e6, e7, e8, e9, e10, e11, e12, e13, reduceCtorEq] at hF
  | some l4 =>
  simp only [rDerive_ct, e0, e1, e2, e3, e4, e5, e6, e7, e8, e9, e10, e11, e12, e13, Option.some.injEq, Prod.mk.injEq] at hF
  obtain ⟨rfl, rfl, rfl⟩ := hF
  obtain ⟨v0, vals, rfl, k0, ha⟩ := F2.inv ha
  obtain ⟨v1, vals, rfl, k1, ha⟩ := F2.inv ha
  obtain ⟨v2, vals, rfl, k2, ha⟩ := F2.inv ha
  obtain ⟨v3, vals, rfl, k3, ha⟩ := F2.inv ha
  obtain ⟨v4, vals, rfl, k4, ha⟩ := F2.inv ha
  obtain rfl := F2.inv0 ha
  have hI : ∀ w', Kp (noB (fun _ => undef)) w w' → Tr w' := fun _ hk => Tr.keep hk.below hG
  have h : rDerive n l0_0 l0_1 l0_2 l0_3 l0_4 l0_5 l0_6 l0_7 l0_8 l1 l2 l3 l4 = some r := hg
  obtain ⟨vs0, hn0, rfl, hy0⟩ := aGc_ok e0 k0
  obtain ⟨p0_0, s0_0, o0_0⟩ := aW_ok hp e1 (hy0 0 (by decide)) 28
  have s0_1 := aU32_ok e2 (hy0 1 (by decide))
  have s0_2 := aU32_ok e3 (hy0 2 (by decide))
  have s0_3 := aU32_ok e4 (hy0 3 (by decide))
  have s0_4 := aU32_ok e5 (hy0 4 (by decide))
  have s0_5 := aU32_ok e6 (hy0 5 (by decide))
  have s0_6 := aU32_ok e7 (hy0 6 (by decide))
  have s0_7 := aU32_ok e8 (hy0 7 (by decide))
  have s0_8 := aU32_ok e9 (hy0 8 (by decide))
  obtain ⟨p1, s1, o1⟩ := aB_ok hp e10 (k1) 5
  obtain ⟨p2, s2, o2⟩ := aB_ok hp e11 (k2) 5
  have s3 := aI_ok e12 (k3)
  have s4 := aI_ok e13 (k4)
  have hR0 := rel0 (gv := (fun _ => undef)) (n := 73) (w := w) (args := [.g 9 (.c [.wh 0, .s (.u32 l0_1), .s (.u32 l0_2), .s (.u32 l0_3), .s (.u32 l0_4), .s (.u32 l0_5), .s (.u32 l0_6), .s (.u32 l0_7), .s (.u32 l0_8)]), .c (.wh 1), .c (.wh 2), .c (.s (.k .i64 l3)), .c (.s (.k .i64 l4))]) (H := [⟨.ro false, 28, 1, l0_0.length, .w l0_0⟩, ⟨.ro false, 5, 1, l1.length, .b l1⟩, ⟨.ro false, 5, 1, l2.length, .b l2⟩]) (gl := []) (hpL (ps := [p0_0, p1, p2]) (F2.cons o0_0 (F2.cons o1 (F2.cons o2 F2.nil)))) (allRo_ok rfl) (F2.cons ⟨vs0, (by rw [lstE undef hn0]; exact (F2.cons s0_0 (F2.cons s0_1 (F2.cons s0_2 (F2.cons s0_3 (F2.cons s0_4 (F2.cons s0_5 (F2.cons s0_6 (F2.cons s0_7 (F2.cons s0_8 F2.nil)))))))))), hn0, rfl⟩ (F2.cons s1 (F2.cons s2 (F2.cons s3 (F2.cons s4 F2.nil))))) GlR.nil (by simp)
  clear ha hp hg k0 k1 k2 k3 k4 e0 e1 e2 e3 e4 e5 e6 e7 e8 e9 e10 e11 e12 e13
  refine calls_W Tryd.func15 rfl rfl hR0 (Q := fun e s => (e = .ret ∨ e = .normal) ∧ s = rDerive_R r) ?_ ?_
  · clear hR0
    unfold rDerive at h
    have hT := tabO_ms
    refine W_seq ?_
    refine W_reg hT ftL_nil [] [] [1, 2, 3, 4, 5] [1, 2, 3, 0] (s' := ⟨[(1, .c (.wh 0)), (2, .c (.wh 1)), (3, .c (.s (.k .i64 l3))), (4, .c (.s (.k .i64 l4))), (5, .c (.pt 2 0))], [], [⟨(.ro false), 5, 1, l1.length, .b l1⟩, ⟨(.ro false), 5, 1, l2.length, .b l2⟩, ⟨.blk, 31, 1, 9, .c [.wh 3, .s (.u32 l0_1), .s (.u32 l0_2), .s (.u32 l0_3), .s (.u32 l0_4), .s (.u32 l0_5), .s (.u32 l0_6), .s (.u32 l0_7), .s (.u32 l0_8)]⟩, ⟨(.ro false), 28, 1, l0_0.length, .w l0_0⟩]⟩) (by kernel_rfl) allP_nil ?_
    refine W_seq ?_
    refine W_reg hT ftL_nil [] [] [1, 2, 3, 4, 5, 11] [0, 1, 2, 3] (s' := ⟨[(1, .c (.wh 0)), (2, .c (.wh 1)), (3, .c (.s (.k .i64 l3))), (4, .c (.s (.k .i64 l4))), (5, .c (.pt 2 0)), (11, .c (.nils))], [], [⟨(.ro false), 5, 1, l1.length, .b l1⟩, ⟨(.ro false), 5, 1, l2.length, .b l2⟩, ⟨.blk, 31, 1, 9, .c [.wh 3, .s (.u32 l0_1), .s (.u32 l0_2), .s (.u32 l0_3), .s (.u32 l0_4), .s (.u32 l0_5), .s (.u32 l0_6), .s (.u32 l0_7), .s (.u32 l0_8)]⟩, ⟨(.ro false), 28, 1, l0_0.length, .w l0_0⟩]⟩) (by kernel_rfl) allP_nil ?_
    refine W_seq ?_
    refine W_seq ?_
    refine W_reg hT ftL_nil [] [] [1, 2, 3, 4, 5, 11, 12] [0, 1, 2, 3] (s' := ⟨[(1, .c (.wh 0)), (2, .c (.wh 1)), (3, .c (.s (.k .i64 l3))), (4, .c (.s (.k .i64 l4))), (5, .c (.pt 2 0)), (11, .c (.nils)), (12, .c (.s (.k .i64 1)))], [], [⟨(.ro false), 5, 1, l1.length, .b l1⟩, ⟨(.ro false), 5, 1, l2.length, .b l2⟩, ⟨.blk, 31, 1, 9, .c [.wh 3, .s (.u32 l0_1), .s (.u32 l0_2), .s (.u32 l0_3), .s (.u32 l0_4), .s (.u32 l0_5), .s (.u32 l0_6), .s (.u32 l0_7), .s (.u32 l0_8)]⟩, ⟨(.ro false), 28, 1, l0_0.length, .w l0_0⟩]⟩) (by kernel_rfl) allP_nil ?_
    refine W_block ?_
    refine W_co [.nil 11 5 1 (.b [])] [1, 2, 3, 4, 5, 11, 12] [0, 1, 2, 3, 4] (s' := (rDerive_l1_E l0_0 l0_1 l0_2 l0_3 l0_4 l0_5 l0_6 l0_7 l0_8 l1 l2 l3 l4 [] 1)) (by kernel_rfl) (W_lp ((rDerive_l1_P n l0_0 l0_1 l0_2 l0_3 l0_4 l0_5 l0_6 l0_7 l0_8 l1 l2 l3 l4 r)) n (rDerive_l1_M h) ?_)
    rintro fu_l1 _ ⟨l11_2, i12_2, rfl, h⟩
    cases fu_l1 with
    | zero => cases h
    | succ fu_l1 =>
      refine ⟨fu_l1, rfl, ?_⟩
      rw [rDerive_l1] at h
      refine W_seq ?_
      refine W_seq ?_
      refine W_reg hT ftL_nil [] [] [1, 2, 3, 4, 5, 11, 12, 21] [0, 1, 2, 3, 4] (s' := ⟨[(1, .c (.wh 0)), (2, .c (.wh 1)), (3, .c (.s (.k .i64 l3))), (4, .c (.s (.k .i64 l4))), (5, .c (.pt 2 0)), (11, .c (.wh 4)), (12, .c (.s (.k .i64 i12_2))), (21, .c (.s (.b (decide (((l11_2.length : Nat) : Int) < l4)))))], [], [⟨(.ro false), 5, 1, l1.length, .b l1⟩, ⟨(.ro false), 5, 1, l2.length, .b l2⟩, ⟨.blk, 31, 1, 9, .c [.wh 3, .s (.u32 l0_1), .s (.u32 l0_2), .s (.u32 l0_3), .s (.u32 l0_4), .s (.u32 l0_5), .s (.u32 l0_6), .s (.u32 l0_7), .s (.u32 l0_8)]⟩, ⟨(.ro false), 28, 1, l0_0.length, .w l0_0⟩, ⟨.row, 5, 1, l11_2.length, .b l11_2⟩]⟩) (by kernel_rfl) allP_nil ?_
      refine W_cond (b := (decide (((l11_2.length : Nat) : Int) < l4))) (by kernel_rfl) (fun g23 => ?_) (fun g23 => ?_)
      · replace h := bif_t h g23
        refine W_co [] [1, 2, 3, 4, 5, 11, 12] [0, 1, 2, 3, 4] (s' := ⟨[(1, .c (.wh 0)), (2, .c (.wh 1)), (3, .c (.s (.k .i64 l3))), (4, .c (.s (.k .i64 l4))), (5, .c (.pt 2 0)), (11, .c (.wh 4)), (12, .c (.s (.k .i64 i12_2)))], [], [⟨(.ro false), 5, 1, l1.length, .b l1⟩, ⟨(.ro false), 5, 1, l2.length, .b l2⟩, ⟨.blk, 31, 1, 9, .c [.wh 3, .s (.u32 l0_1), .s (.u32 l0_2), .s (.u32 l0_3), .s (.u32 l0_4), .s (.u32 l0_5), .s (.u32 l0_6), .s (.u32 l0_7), .s (.u32 l0_8)]⟩, ⟨(.ro false), 28, 1, l0_0.length, .w l0_0⟩, ⟨.row, 5, 1, l11_2.length, .b l11_2⟩]⟩) (by kernel_rfl) (W_skip ?_)
        refine W_seq ?_
        refine W_block ?_
        refine W_seq ?_
        obtain ⟨g1, h⟩ := gd_some h
        obtain ⟨g2, h⟩ := gd_some h
        obtain ⟨g3, h⟩ := gd_some h
        obtain ⟨g4, h⟩ := gd_some h
        obtain ⟨g5, h⟩ := gd_some h
        refine W_reg hT ftL_nil [] [] [1, 2, 3, 4, 5, 11, 12, 13] [0, 1, 2, 3, 4, 8] (s' := ⟨[(1, .c (.wh 0)), (2, .c (.wh 1)), (3, .c (.s (.k .i64 l3))), (4, .c (.s (.k .i64 l4))), (5, .c (.pt 2 0)), (11, .c (.wh 4)), (12, .c (.s (.k .i64 i12_2))), (13, .c (.wh 5))], [], [⟨(.ro false), 5, 1, l1.length, .b l1⟩, ⟨(.ro false), 5, 1, l2.length, .b l2⟩, ⟨.blk, 31, 1, 9, .c [.wh 3, .s (.u32 l0_1), .s (.u32 l0_2), .s (.u32 l0_3), .s (.u32 l0_4), .s (.u32 l0_5), .s (.u32 l0_6), .s (.u32 l0_7), .s (.u32 l0_8)]⟩, ⟨(.ro false), 28, 1, l0_0.length, .w l0_0⟩, ⟨.row, 5, 1, l11_2.length, .b l11_2⟩, ⟨.row, 5, 1, (([] ++ l2) ++ [0, 0, (UInt8.ofInt (Int.tdiv i12_2 256)), (UInt8.ofInt (Int.tmod i12_2 256))]).length, .b (([] ++ l2) ++ [0, 0, (UInt8.ofInt (Int.tdiv i12_2 256)), (UInt8.ofInt (Int.tmod i12_2 256))])⟩]⟩) (by kernel_rfl) (allP_cons.2 ⟨g1, (allP_cons.2 ⟨g2, (allP_cons.2 ⟨g3, (allP_cons.2 ⟨g4, (allP_cons.2 ⟨g5, allP_nil⟩)⟩)⟩)⟩)⟩) ?_
        refine W_seq ?_
        obtain ⟨r38_3, g6, h⟩ := bind_some' h
        refine W_reg hT (ftL_cons (k := 3) (f := 12) (F := (rMark_ct n r38_3)) (rMark_ok n r38_3) (fun _ _ => True.intro) ftL_nil) [] [] [1, 2, 3, 4, 5, 11, 12, 14] [0, 1, 2, 3, 4, 6] (s' := ⟨[(1, .c (.wh 0)), (2, .c (.wh 1)), (3, .c (.s (.k .i64 l3))), (4, .c (.s (.k .i64 l4))), (5, .c (.pt 2 0)), (11, .c (.wh 4)), (12, .c (.s (.k .i64 i12_2))), (14, .c (.wh 5))], [], [⟨(.ro false), 5, 1, l1.length, .b l1⟩, ⟨(.ro false), 5, 1, l2.length, .b l2⟩, ⟨.blk, 31, 1, 9, .c [.wh 3, .s (.u32 l0_1), .s (.u32 l0_2), .s (.u32 l0_3), .s (.u32 l0_4), .s (.u32 l0_5), .s (.u32 l0_6), .s (.u32 l0_7), .s (.u32 l0_8)]⟩, ⟨(.ro false), 28, 1, l0_0.length, .w l0_0⟩, ⟨.row, 5, 1, l11_2.length, .b l11_2⟩, ⟨.row, 5, 1, r38_3.length, .b r38_3⟩]⟩) (by kernel_rfl) (allP_cons.2 ⟨g6, allP_nil⟩) ?_
        refine W_seq ?_
        obtain ⟨g7, h⟩ := gd_some h
        refine W_reg hT ftL_nil [] [] [1, 2, 3, 4, 5, 11, 12, 14, 15] [0, 1, 2, 3, 4, 5, 7] (s' := ⟨[(1, .c (.wh 0)), (2, .c (.wh 1)), (3, .c (.s (.k .i64 l3))), (4, .c (.s (.k .i64 l4))), (5, .c (.pt 2 0)), (11, .c (.wh 4)), (12, .c (.s (.k .i64 i12_2))), (14, .c (.wh 5)), (15, .c (.wh 6))], [], [⟨(.ro false), 5, 1, l1.length, .b l1⟩, ⟨(.ro false), 5, 1, l2.length, .b l2⟩, ⟨.blk, 31, 1, 9, .c [.wh 3, .s (.u32 l0_1), .s (.u32 l0_2), .s (.u32 l0_3), .s (.u32 l0_4), .s (.u32 l0_5), .s (.u32 l0_6), .s (.u32 l0_7), .s (.u32 l0_8)]⟩, ⟨(.ro false), 28, 1, l0_0.length, .w l0_0⟩, ⟨.row, 5, 1, l11_2.length, .b l11_2⟩, ⟨.row, 5, 1, r38_3.length, .b r38_3⟩, ⟨.row, 5, 1, ([] ++ r38_3).length, .b ([] ++ r38_3)⟩]⟩) (by kernel_rfl) (allP_cons.2 ⟨g7, allP_nil⟩) ?_
        refine W_seq ?_
        refine W_seq ?_
        refine W_reg hT ftL_nil [] [] [1, 2, 3, 4, 5, 11, 12, 14, 15, 16] [0, 1, 2, 3, 4, 5, 6] (s' := ⟨[(1, .c (.wh 0)), (2, .c (.wh 1)), (3, .c (.s (.k .i64 l3))), (4, .c (.s (.k .i64 l4))), (5, .c (.pt 2 0)), (11, .c (.wh 4)), (12, .c (.s (.k .i64 i12_2))), (14, .c (.wh 5)), (15, .c (.wh 6)), (16, .c (.s (.k .i64 1)))], [], [⟨(.ro false), 5, 1, l1.length, .b l1⟩, ⟨(.ro false), 5, 1, l2.length, .b l2⟩, ⟨.blk, 31, 1, 9, .c [.wh 3, .s (.u32 l0_1), .s (.u32 l0_2), .s (.u32 l0_3), .s (.u32 l0_4), .s (.u32 l0_5), .s (.u32 l0_6), .s (.u32 l0_7), .s (.u32 l0_8)]⟩, ⟨(.ro false), 28, 1, l0_0.length, .w l0_0⟩, ⟨.row, 5, 1, l11_2.length, .b l11_2⟩, ⟨.row, 5, 1, r38_3.length, .b r38_3⟩, ⟨.row, 5, 1, ([] ++ r38_3).length, .b ([] ++ r38_3)⟩]⟩) (by kernel_rfl) allP_nil ?_
        refine W_block ?_
        refine W_co [] [1, 2, 3, 4, 5, 11, 12, 14, 15, 16] [0, 1, 2, 3, 4, 5, 6] (s' := (rDerive_l2_E l0_0 l0_1 l0_2 l0_3 l0_4 l0_5 l0_6 l0_7 l0_8 l1 l2 l3 l4 l11_2 i12_2 r38_3 r38_3 ([] ++ r38_3) 1)) (by kernel_rfl) (W_lp ((rDerive_l2_P n l0_0 l0_1 l0_2 l0_3 l0_4 l0_5 l0_6 l0_7 l0_8 l1 l2 l3 l4 l11_2 i12_2 r38_3 (rDerive_l1 n l0_0 l0_1 l0_2 l0_3 l0_4 l0_5 l0_6 l0_7 l0_8 l1 l2 l3 l4 fu_l1) r)) n (rDerive_l2_M h) ?_)
        rintro fu_l2 _ ⟨l14_8, l15_33, i16_8, rfl, h⟩
        cases fu_l2 with
        | zero => cases h
        | succ fu_l2 =>
          refine ⟨fu_l2, rfl, ?_⟩
          rw [rDerive_l2] at h
          refine W_seq ?_
          refine W_seq ?_
          refine W_reg hT ftL_nil [] [] [1, 2, 3, 4, 5, 11, 12, 14, 15, 16, 44] [0, 1, 2, 3, 4, 5, 6] (s' := ⟨[(1, .c (.wh 0)), (2, .c (.wh 1)), (3, .c (.s (.k .i64 l3))), (4, .c (.s (.k .i64 l4))), (5, .c (.pt 2 0)), (11, .c (.wh 4)), (12, .c (.s (.k .i64 i12_2))), (14, .c (.wh 5)), (15, .c (.wh 6)), (16, .c (.s (.k .i64 i16_8))), (44, .c (.s (.b (decide (i16_8 < l3)))))], [], [⟨(.ro false), 5, 1, l1.length, .b l1⟩, ⟨(.ro false), 5, 1, l2.length, .b l2⟩, ⟨.blk, 31, 1, 9, .c [.wh 3, .s (.u32 l0_1), .s (.u32 l0_2), .s (.u32 l0_3), .s (.u32 l0_4), .s (.u32 l0_5), .s (.u32 l0_6), .s (.u32 l0_7), .s (.u32 l0_8)]⟩, ⟨(.ro false), 28, 1, l0_0.length, .w l0_0⟩, ⟨.row, 5, 1, l11_2.length, .b l11_2⟩, ⟨.row, 5, 1, l14_8.length, .b l14_8⟩, ⟨.row, 5, 1, ([] ++ r38_3).length, .b l15_33⟩]⟩) (by kernel_rfl) allP_nil ?_
          refine W_cond (b := (decide (i16_8 < l3))) (by kernel_rfl) (fun g20 => ?_) (fun g20 => ?_)
          · replace h := bif_t h g20
            refine W_co [] [1, 2, 3, 4, 5, 11, 12, 14, 15, 16] [0, 1, 2, 3, 4, 5, 6] (s' := ⟨[(1, .c (.wh 0)), (2, .c (.wh 1)), (3, .c (.s (.k .i64 l3))), (4, .c (.s (.k .i64 l4))), (5, .c (.pt 2 0)), (11, .c (.wh 4)), (12, .c (.s (.k .i64 i12_2))), (14, .c (.wh 5)), (15, .c (.wh 6)), (16, .c (.s (.k .i64 i16_8)))], [], [⟨(.ro false), 5, 1, l1.length, .b l1⟩, ⟨(.ro false), 5, 1, l2.length, .b l2⟩, ⟨.blk, 31, 1, 9, .c [.wh 3, .s (.u32 l0_1), .s (.u32 l0_2), .s (.u32 l0_3), .s (.u32 l0_4), .s (.u32 l0_5), .s (.u32 l0_6), .s (.u32 l0_7), .s (.u32 l0_8)]⟩, ⟨(.ro false), 28, 1, l0_0.length, .w l0_0⟩, ⟨.row, 5, 1, l11_2.length, .b l11_2⟩, ⟨.row, 5, 1, l14_8.length, .b l14_8⟩, ⟨.row, 5, 1, ([] ++ r38_3).length, .b l15_33⟩]⟩) (by kernel_rfl) (W_skip ?_)
            refine W_seq ?_
            refine W_block ?_
            refine W_seq ?_
            obtain ⟨r50_12, g8, h⟩ := bind_some' h
            refine W_reg hT (ftL_cons (k := 3) (f := 12) (F := (rMark_ct n r50_12)) (rMark_ok n r50_12) (fun _ _ => True.intro) ftL_nil) [] [] [1, 2, 3, 4, 5, 11, 12, 14, 15, 16] [0, 1, 2, 3, 4, 7, 6] (s' := ⟨[(1, .c (.wh 0)), (2, .c (.wh 1)), (3, .c (.s (.k .i64 l3))), (4, .c (.s (.k .i64 l4))), (5, .c (.pt 2 0)), (11, .c (.wh 4)), (12, .c (.s (.k .i64 i12_2))), (14, .c (.wh 5)), (15, .c (.wh 6)), (16, .c (.s (.k .i64 i16_8)))], [], [⟨(.ro false), 5, 1, l1.length, .b l1⟩, ⟨(.ro false), 5, 1, l2.length, .b l2⟩, ⟨.blk, 31, 1, 9, .c [.wh 3, .s (.u32 l0_1), .s (.u32 l0_2), .s (.u32 l0_3), .s (.u32 l0_4), .s (.u32 l0_5), .s (.u32 l0_6), .s (.u32 l0_7), .s (.u32 l0_8)]⟩, ⟨(.ro false), 28, 1, l0_0.length, .w l0_0⟩, ⟨.row, 5, 1, l11_2.length, .b l11_2⟩, ⟨.row, 5, 1, r50_12.length, .b r50_12⟩, ⟨.row, 5, 1, ([] ++ r38_3).length, .b l15_33⟩]⟩) (by kernel_rfl) (allP_cons.2 ⟨g8, allP_nil⟩) ?_
            refine W_seq ?_
            refine W_reg hT ftL_nil [] [] [1, 2, 3, 4, 5, 11, 12, 14, 15, 16, 17] [0, 1, 2, 3, 4, 5, 6] (s' := ⟨[(1, .c (.wh 0)), (2, .c (.wh 1)), (3, .c (.s (.k .i64 l3))), (4, .c (.s (.k .i64 l4))), (5, .c (.pt 2 0)), (11, .c (.wh 4)), (12, .c (.s (.k .i64 i12_2))), (14, .c (.wh 5)), (15, .c (.wh 6)), (16, .c (.s (.k .i64 i16_8))), (17, .c (.s (.k .i64 0)))], [], [⟨(.ro false), 5, 1, l1.length, .b l1⟩, ⟨(.ro false), 5, 1, l2.length, .b l2⟩, ⟨.blk, 31, 1, 9, .c [.wh 3, .s (.u32 l0_1), .s (.u32 l0_2), .s (.u32 l0_3), .s (.u32 l0_4), .s (.u32 l0_5), .s (.u32 l0_6), .s (.u32 l0_7), .s (.u32 l0_8)]⟩, ⟨(.ro false), 28, 1, l0_0.length, .w l0_0⟩, ⟨.row, 5, 1, l11_2.length, .b l11_2⟩, ⟨.row, 5, 1, r50_12.length, .b r50_12⟩, ⟨.row, 5, 1, ([] ++ r38_3).length, .b l15_33⟩]⟩) (by kernel_rfl) allP_nil ?_
            refine W_block ?_
            refine W_co [] [1, 2, 3, 4, 5, 11, 12, 14, 15, 16, 17] [0, 1, 2, 3, 4, 5, 6] (s' := (rDerive_l3_E l0_0 l0_1 l0_2 l0_3 l0_4 l0_5 l0_6 l0_7 l0_8 l1 l2 l3 l4 l11_2 i12_2 r38_3 i16_8 r50_12 l15_33 0)) (by kernel_rfl) (W_lp ((rDerive_l3_P n l0_0 l0_1 l0_2 l0_3 l0_4 l0_5 l0_6 l0_7 l0_8 l1 l2 l3 l4 l11_2 i12_2 r38_3 i16_8 r50_12 (rDerive_l2 n l0_0 l0_1 l0_2 l0_3 l0_4 l0_5 l0_6 l0_7 l0_8 l1 l2 l3 l4 l11_2 i12_2 r38_3 (rDerive_l1 n l0_0 l0_1 l0_2 l0_3 l0_4 l0_5 l0_6 l0_7 l0_8 l1 l2 l3 l4 fu_l1) fu_l2) r)) n (rDerive_l3_M h) ?_)
            rintro fu_l3 _ ⟨l15_35, i17_26, rfl, h⟩
            cases fu_l3 with
            | zero => cases h
            | succ fu_l3 =>
              refine ⟨fu_l3, rfl, ?_⟩
              rw [rDerive_l3] at h
              refine W_seq ?_
              refine W_seq ?_
              refine W_reg hT ftL_nil [] [] [1, 2, 3, 4, 5, 11, 12, 14, 15, 16, 17, 52] [0, 1, 2, 3, 4, 5, 6] (s' := ⟨[(1, .c (.wh 0)), (2, .c (.wh 1)), (3, .c (.s (.k .i64 l3))), (4, .c (.s (.k .i64 l4))), (5, .c (.pt 2 0)), (11, .c (.wh 4)), (12, .c (.s (.k .i64 i12_2))), (14, .c (.wh 5)), (15, .c (.wh 6)), (16, .c (.s (.k .i64 i16_8))), (17, .c (.s (.k .i64 i17_26))), (52, .c (.s (.b (decide (i17_26 < (32 : Int))))))], [], [⟨(.ro false), 5, 1, l1.length, .b l1⟩, ⟨(.ro false), 5, 1, l2.length, .b l2⟩, ⟨.blk, 31, 1, 9, .c [.wh 3, .s (.u32 l0_1), .s (.u32 l0_2), .s (.u32 l0_3), .s (.u32 l0_4), .s (.u32 l0_5), .s (.u32 l0_6), .s (.u32 l0_7), .s (.u32 l0_8)]⟩, ⟨(.ro false), 28, 1, l0_0.length, .w l0_0⟩, ⟨.row, 5, 1, l11_2.length, .b l11_2⟩, ⟨.row, 5, 1, r50_12.length, .b r50_12⟩, ⟨.row, 5, 1, ([] ++ r38_3).length, .b l15_35⟩]⟩) (by kernel_rfl) allP_nil ?_
              refine W_cond (b := (decide (i17_26 < (32 : Int)))) (by kernel_rfl) (fun g17 => ?_) (fun g17 => ?_)
              · replace h := bif_t h g17
                refine W_co [] [1, 2, 3, 4, 5, 11, 12, 14, 15, 16, 17] [0, 1, 2, 3, 4, 5, 6] (s' := ⟨[(1, .c (.wh 0)), (2, .c (.wh 1)), (3, .c (.s (.k .i64 l3))), (4, .c (.s (.k .i64 l4))), (5, .c (.pt 2 0)), (11, .c (.wh 4)), (12, .c (.s (.k .i64 i12_2))), (14, .c (.wh 5)), (15, .c (.wh 6)), (16, .c (.s (.k .i64 i16_8))), (17, .c (.s (.k .i64 i17_26)))], [], [⟨(.ro false), 5, 1, l1.length, .b l1⟩, ⟨(.ro false), 5, 1, l2.length, .b l2⟩, ⟨.blk, 31, 1, 9, .c [.wh 3, .s (.u32 l0_1), .s (.u32 l0_2), .s (.u32 l0_3), .s (.u32 l0_4), .s (.u32 l0_5), .s (.u32 l0_6), .s (.u32 l0_7), .s (.u32 l0_8)]⟩, ⟨(.ro false), 28, 1, l0_0.length, .w l0_0⟩, ⟨.row, 5, 1, l11_2.length, .b l11_2⟩, ⟨.row, 5, 1, r50_12.length, .b r50_12⟩, ⟨.row, 5, 1, ([] ++ r38_3).length, .b l15_35⟩]⟩) (by kernel_rfl) (W_skip ?_)
                refine W_seq ?_
                refine W_block ?_
                obtain ⟨g9, h⟩ := gd_some h
                obtain ⟨g10, h⟩ := gd_some h
                obtain ⟨g11, h⟩ := gd_some h
                obtain ⟨g12, h⟩ := gd_some h
                obtain ⟨g13, h⟩ := gd_some h
                obtain ⟨g14, h⟩ := gd_some h
                refine W_regD hT ftL_nil (by kernel_rfl) 11 [] [(1, false), (2, false), (3, false), (4, false), (5, false), (11, false), (12, false), (14, false), (15, false), (16, false), (17, false), (55, false), (56, false), (65, false)] [] [1, 2, 3, 4, 5, 11, 12, 14, 15, 16, 17] [0, 1, 2, 3, 4, 5, 6] (s' := ⟨[(1, .c (.wh 0)), (2, .c (.wh 1)), (3, .c (.s (.k .i64 l3))), (4, .c (.s (.k .i64 l4))), (5, .c (.pt 2 0)), (11, .c (.wh 4)), (12, .c (.s (.k .i64 i12_2))), (14, .c (.wh 5)), (15, .c (.wh 6)), (16, .c (.s (.k .i64 i16_8))), (17, .c (.s (.k .i64 i17_26)))], [], [⟨(.ro false), 5, 1, l1.length, .b l1⟩, ⟨(.ro false), 5, 1, l2.length, .b l2⟩, ⟨.blk, 31, 1, 9, .c [.wh 3, .s (.u32 l0_1), .s (.u32 l0_2), .s (.u32 l0_3), .s (.u32 l0_4), .s (.u32 l0_5), .s (.u32 l0_6), .s (.u32 l0_7), .s (.u32 l0_8)]⟩, ⟨(.ro false), 28, 1, l0_0.length, .w l0_0⟩, ⟨.row, 5, 1, l11_2.length, .b l11_2⟩, ⟨.row, 5, 1, r50_12.length, .b r50_12⟩, ⟨.row, 5, 1, ([] ++ r38_3).length, .b (l15_35.set i17_26.toNat ((l15_35.getD i17_26.toNat 0) ^^^ (r50_12.getD i17_26.toNat 0)))⟩]⟩) (by kernel_rfl) (by kernel_rfl) (allP_cons.2 ⟨g9, (allP_cons.2 ⟨g10, (allP_cons.2 ⟨g11, (allP_cons.2 ⟨g12, (allP_cons.2 ⟨g13, (allP_cons.2 ⟨g14, allP_nil⟩)⟩)⟩)⟩)⟩)⟩) ?_
                obtain ⟨g15, h⟩ := gd_some h
                refine W_reg hT ftL_nil [] [] [1, 2, 3, 4, 5, 11, 12, 14, 15, 16, 17] [0, 1, 2, 3, 4, 5, 6] (s' := (rDerive_l3_E l0_0 l0_1 l0_2 l0_3 l0_4 l0_5 l0_6 l0_7 l0_8 l1 l2 l3 l4 l11_2 i12_2 r38_3 i16_8 r50_12 (l15_35.set i17_26.toNat ((l15_35.getD i17_26.toNat 0) ^^^ (r50_12.getD i17_26.toNat 0))) (i17_26 + 1))) (by kernel_rfl) (allP_cons.2 ⟨g15, allP_nil⟩) ?_
                exact rDerive_l3_M h
              · replace h := bif_f h g17
                refine W_co [] [1, 2, 3, 4, 5, 11, 12, 14, 15, 16] [0, 1, 2, 3, 4, 5, 6] (s' := ⟨[(1, .c (.wh 0)), (2, .c (.wh 1)), (3, .c (.s (.k .i64 l3))), (4, .c (.s (.k .i64 l4))), (5, .c (.pt 2 0)), (11, .c (.wh 4)), (12, .c (.s (.k .i64 i12_2))), (14, .c (.wh 5)), (15, .c (.wh 6)), (16, .c (.s (.k .i64 i16_8)))], [], [⟨(.ro false), 5, 1, l1.length, .b l1⟩, ⟨(.ro false), 5, 1, l2.length, .b l2⟩, ⟨.blk, 31, 1, 9, .c [.wh 3, .s (.u32 l0_1), .s (.u32 l0_2), .s (.u32 l0_3), .s (.u32 l0_4), .s (.u32 l0_5), .s (.u32 l0_6), .s (.u32 l0_7), .s (.u32 l0_8)]⟩, ⟨(.ro false), 28, 1, l0_0.length, .w l0_0⟩, ⟨.row, 5, 1, l11_2.length, .b l11_2⟩, ⟨.row, 5, 1, r50_12.length, .b r50_12⟩, ⟨.row, 5, 1, ([] ++ r38_3).length, .b l15_35⟩]⟩) (by kernel_rfl) (W_exit ?_)
                obtain ⟨g16, h⟩ := gd_some h
                refine W_reg hT ftL_nil [] [] [1, 2, 3, 4, 5, 11, 12, 14, 15, 16] [0, 1, 2, 3, 4, 5, 6] (s' := (rDerive_l2_E l0_0 l0_1 l0_2 l0_3 l0_4 l0_5 l0_6 l0_7 l0_8 l1 l2 l3 l4 l11_2 i12_2 r38_3 r50_12 l15_35 (i16_8 + 1))) (by kernel_rfl) (allP_cons.2 ⟨g16, allP_nil⟩) ?_
                exact rDerive_l2_M h
          · replace h := bif_f h g20
            refine W_co [] [1, 2, 3, 4, 5, 11, 12, 15] [0, 1, 2, 3, 4, 6] (s' := ⟨[(1, .c (.wh 0)), (2, .c (.wh 1)), (3, .c (.s (.k .i64 l3))), (4, .c (.s (.k .i64 l4))), (5, .c (.pt 2 0)), (11, .c (.wh 4)), (12, .c (.s (.k .i64 i12_2))), (15, .c (.wh 5))], [], [⟨(.ro false), 5, 1, l1.length, .b l1⟩, ⟨(.ro false), 5, 1, l2.length, .b l2⟩, ⟨.blk, 31, 1, 9, .c [.wh 3, .s (.u32 l0_1), .s (.u32 l0_2), .s (.u32 l0_3), .s (.u32 l0_4), .s (.u32 l0_5), .s (.u32 l0_6), .s (.u32 l0_7), .s (.u32 l0_8)]⟩, ⟨(.ro false), 28, 1, l0_0.length, .w l0_0⟩, ⟨.row, 5, 1, l11_2.length, .b l11_2⟩, ⟨.row, 5, 1, ([] ++ r38_3).length, .b l15_33⟩]⟩) (by kernel_rfl) (W_exit ?_)
            obtain ⟨g18, h⟩ := gd_some h
            refine W_reg hT ftL_nil [] [] [1, 2, 3, 4, 5, 11, 12] [0, 1, 2, 3, 6] (s' := ⟨[(1, .c (.wh 0)), (2, .c (.wh 1)), (3, .c (.s (.k .i64 l3))), (4, .c (.s (.k .i64 l4))), (5, .c (.pt 2 0)), (11, .c (.wh 4)), (12, .c (.s (.k .i64 i12_2)))], [], [⟨(.ro false), 5, 1, l1.length, .b l1⟩, ⟨(.ro false), 5, 1, l2.length, .b l2⟩, ⟨.blk, 31, 1, 9, .c [.wh 3, .s (.u32 l0_1), .s (.u32 l0_2), .s (.u32 l0_3), .s (.u32 l0_4), .s (.u32 l0_5), .s (.u32 l0_6), .s (.u32 l0_7), .s (.u32 l0_8)]⟩, ⟨(.ro false), 28, 1, l0_0.length, .w l0_0⟩, ⟨.row, 5, 1, (l11_2 ++ l15_33).length, .b (l11_2 ++ l15_33)⟩]⟩) (by kernel_rfl) (allP_cons.2 ⟨g18, allP_nil⟩) ?_
            obtain ⟨g19, h⟩ := gd_some h
            refine W_reg hT ftL_nil [] [] [1, 2, 3, 4, 5, 11, 12] [0, 1, 2, 3, 4] (s' := (rDerive_l1_E l0_0 l0_1 l0_2 l0_3 l0_4 l0_5 l0_6 l0_7 l0_8 l1 l2 l3 l4 (l11_2 ++ l15_33) (i12_2 + 1))) (by kernel_rfl) (allP_cons.2 ⟨g19, allP_nil⟩) ?_
            exact rDerive_l1_M h
      · replace h := bif_f h g23
        refine W_co [] [4, 11] [4] (s' := ⟨[(4, .c (.s (.k .i64 l4))), (11, .c (.wh 0))], [], [⟨.row, 5, 1, l11_2.length, .b l11_2⟩]⟩) (by kernel_rfl) (W_exit ?_)
        refine W_seq ?_
        obtain ⟨g21, h⟩ := gd_some h
        obtain ⟨g22, h⟩ := gd_some h
        refine W_reg hT ftL_nil [] [] [10] [0] (s' := ⟨[(10, .c (.sl 0 0 l4.toNat))], [], [⟨.row, 5, 1, l11_2.length, .b l11_2⟩]⟩) (by kernel_rfl) (allP_cons.2 ⟨g21, (allP_cons.2 ⟨g22, allP_nil⟩)⟩) ?_
        refine W_co [.vw 10 true] [10] [1] (s' := (rDerive_R (((l11_2.drop 0).take l4.toNat), l4.toNat))) (by kernel_rfl) (W_ret ?_)
        exact ⟨.inl rfl, by cases h; rfl⟩
  · rintro e s' ⟨he, rfl⟩
    refine ⟨he, fun a' w' hr => ?_⟩
    exact retS_ok tabO_ms hr (rs := [.tmp 10]) rfl (objs := [0]) (by kernel_rfl)
end Go.Proofs.YtamddohbpdbdmaaDoor
end
section
set_option linter.unusedVariables false
set_option linter.unusedSimpArgs false
namespace Go.Sx
open Go Go.RowKit Go.Ch Go.Proofs.YtamddohbpdbdmaaDoor
theorem refsum_l2_run (n : Nat) (ks : List UInt32) (h0 h1 h2 h3 h4 h5 h6 h7 : UInt32) (a1 : List UInt8) (w6 : List UInt32) (k : List UInt32 → Int → Option (List UInt8)) (A : List UInt8) (hA : a1 ++ tailOf a1.length = A) (i : Nat) (hi : i + 64 ≤ A.length) (hA2 : A.length ≤ 1000000) (hk : ks.length = 64) :
    ∀ (m j fu : Nat), j + m = 64 → m < fu → refsum_l2 n ks h0 h1 h2 h3 h4 h5 h6 h7 a1 w6 (i : Int) k fu (filN 0 (A.drop i) j 64) (j : Int) = k (pressL ks w6 ((A.drop i).take 64)) ((i : Int) + 64) := by
  intro m
  induction m with
  | zero =>
    intro j fu hj hf
    obtain rfl : j = 64 := by omega
    cases fu with
    | zero => omega
    | succ fu =>
      rw [refsum_l2, ite_f (by simp), gd_pos hk, gd_pos (okI64 (by omega) (by omega)), filN_all]
  | succ m ih =>
    intro j fu hj hf
    cases fu with
    | zero => omega
    | succ fu =>
      simp only [refsum_l2, List.nil_append, Int.toNat_natCast, hA]
      rw [ite_t (by simp; omega), gd_pos (okI64 (by omega) (by omega)), gd_pos (by omega), gd_pos (by omega), gd_pos (by omega), gd_pos (by omega), gd_pos (okI64 (by omega) (by omega))]
      rw [show ((i : Int) + (j : Int)).toNat = i + j by omega, ← getD_drop, filN_set _ _ _ _ (by omega) (by simp; omega)]
      have := ih (j + 1) fu (by omega) (by omega)
      rw [Int.natCast_add] at this
      exact this
theorem u32_div (x : UInt32) : [(x / (16777216 : UInt32)).toUInt8, (x / (65536 : UInt32)).toUInt8, (x / (256 : UInt32)).toUInt8, x.toUInt8] = bytesOf x := by
  have d : ∀ (k : Nat) (m : UInt32), k < 32 → m.toNat = 2 ^ k → x / m = x >>> UInt32.ofNat k := by
    intro k m hk hm
    apply UInt32.toNat_inj.1
    rw [UInt32.toNat_div, hm, UInt32.toNat_shiftRight, Nat.shiftRight_eq_div_pow]
    simp [Nat.mod_eq_of_lt hk, Nat.mod_eq_of_lt (show k < 4294967296 by omega)]
  unfold bytesOf
  rw [d 24 16777216 (by omega) rfl, d 16 65536 (by omega) rfl, d 8 256 (by omega) rfl]
theorem refsum_l3_run (n : Nat) (w : List UInt32) (hw : w.length = 8) : ∀ (m j fu : Nat), j + m = 8 → m < fu → refsum_l3 n w fu ((w.take j).flatMap bytesOf) (j : Int) = some (w.flatMap bytesOf) := by
  intro m
  induction m with
  | zero =>
    intro j fu hj hf
    obtain rfl : j = 8 := by omega
    cases fu with
    | zero => omega
    | succ fu => rw [refsum_l3, ite_f (by simp), List.take_of_length_le (by omega)]
  | succ m ih =>
    intro j fu hj hf
    cases fu with
    | zero => omega
    | succ fu =>
      have hl : ∀ (l : List UInt32), (l.flatMap bytesOf).length = 4 * l.length := by
        intro l
        induction l with
        | nil => rfl
        | cons x l ih => simp only [List.flatMap_cons, List.length_append, ih, List.length_cons]; simp [bytesOf]; omega
      have hr : rmB (((w.take j).flatMap bytesOf).length + 4) 1 := by unfold rmB; rw [hl, List.length_take]; omega
      simp only [refsum_l3, Int.toNat_natCast]
      rw [ite_t (by simp; omega), gd_pos (by omega), gd_pos (by omega), gd_pos (by decide), gd_pos (by omega), gd_pos (by omega), gd_pos (by decide), gd_pos (by omega), gd_pos (by omega), gd_pos (by decide), gd_pos (by omega), gd_pos (by omega), gd_pos hr, gd_pos (okI64 (by omega) (by omega))]
      rw [u32_div]
      have := ih (j + 1) fu (by omega) (by omega)
      rw [Int.natCast_add, List.take_succ_eq_append_getElem (by omega), List.flatMap_append] at this
      rw [List.getD_eq_getElem?_getD, List.getElem?_eq_getElem (by omega)]
      simpa using this
theorem refsum_l1_run (n : Nat) (hn : 100 ≤ n) (ks : List UInt32) (h0 h1 h2 h3 h4 h5 h6 h7 : UInt32) (a1 : List UInt8) (V : Words) (A : List UInt8) (hA : a1 ++ tailOf a1.length = A) (q : Nat) (hq : A.length = 64 * q) (hA2 : A.length ≤ 1000000) (hk : ks.length = 64) :
    ∀ (m j fu : Nat), j + m = q → m < fu → refsum_l1 n ks h0 h1 h2 h3 h4 h5 h6 h7 a1 fu (pressN ks V A j).list ((64 * j : Nat) : Int) = some ((pressN ks V A q).list.flatMap bytesOf) := by
  intro m
  induction m with
  | zero =>
    intro j fu hj hf
    obtain rfl : j = q := by omega
    cases fu with
    | zero => omega
    | succ fu =>
      simp only [refsum_l1, List.nil_append, Int.toNat_natCast, hA]
      rw [ite_f (by simp; omega)]
      exact refsum_l3_run n _ rfl 8 0 n (by omega) (by omega)
  | succ m ih =>
    intro j fu hj hf
    cases fu with
    | zero => omega
    | succ fu =>
      simp only [refsum_l1, List.nil_append, Int.toNat_natCast, hA]
      rw [ite_t (by simp; omega), ← filN_zero 0 (A.drop (64 * j)) 64]
      have := refsum_l2_run n ks h0 h1 h2 h3 h4 h5 h6 h7 a1 (pressN ks V A j).list (refsum_l1 n ks h0 h1 h2 h3 h4 h5 h6 h7 a1 fu) A hA (64 * j) (by omega) hA2 hk 64 0 n (by omega) (by omega)
      rw [show ((0 : Nat) : Int) = 0 from rfl] at this
      rw [this]
      have h2 := ih (j + 1) fu (by omega) (by omega)
      rw [show ((64 * (j + 1) : Nat) : Int) = ((64 * j : Nat) : Int) + 64 by omega] at h2
      exact h2
theorem refsum_run (n : Nat) (ks : List UInt32) (V : Words) (a1 : List UInt8) (ha : a1.length ≤ 5000) (hn : 200 ≤ n) (hk : ks.length = 64) :
    refsum n ks V.a V.b V.c V.d V.e V.f V.g V.h a1 = some (digest ks V a1) := by
  have hl := length_tailOf a1.length
  have hw := whole_tailOf a1.length
  unfold refsum
  rw [gd_pos (by unfold rmB; omega), gd_pos (by omega), gd_pos (by omega), gd_pos (by unfold rmB; simp only [List.nil_append, Int.toNat_natCast]; omega), gd_pos (by omega)]
  have hlen : (a1 ++ tailOf a1.length).length = 64 * ((a1.length + (tailOf a1.length).length) / 64) := by rw [List.length_append]; omega
  exact refsum_l1_run n (by omega) ks V.a V.b V.c V.d V.e V.f V.g V.h a1 V _ rfl _ hlen (by rw [List.length_append]; omega) hk ((a1.length + (tailOf a1.length).length) / 64) 0 n (by omega) (by omega)
theorem sumN {n : Nat} (hn : 200 ≤ n) {l : List UInt8} (hl : l.length ≤ 5000) : refsum n consts begin8.a begin8.b begin8.c begin8.d begin8.e begin8.f begin8.g begin8.h l = some (Dg l) := refsum_run n consts begin8 l hl hn consts_len
theorem rconstants_is : rconstants N64 = some consts := by decide +kernel
theorem refbegin_is : refbegin N64 = some begin8.list := by decide +kernel
theorem made_is : made N64 = some (consts, begin8.a, begin8.b, begin8.c, begin8.d, begin8.e, begin8.f, begin8.g, begin8.h) := by
  unfold made; rw [rconstants_is, refbegin_is]; rfl
theorem rMark_l1_is {n : Nat} (hn : 200 ≤ n) (b k : List UInt8) (hk : k.length ≤ 64) (hb : b.length ≤ 4000) : ∀ (m i fu : Nat), i + m = 64 → m < fu →
    rMark_l1 n consts begin8.a begin8.b begin8.c begin8.d begin8.e begin8.f begin8.g begin8.h b k fu (((padk k).take i).map (· ^^^ 54)) (((padk k).take i).map (· ^^^ 92)) (i : Int) = some (Dg ((padk k).map (· ^^^ 92) ++ Dg ((padk k).map (· ^^^ 54) ++ b))) := by
  have hl := padk_len hk
  intro m
  induction m with
  | zero =>
    intro i fu hi hf
    cases fu with
    | zero => omega
    | succ fu =>
      rw [List.take_of_length_le (by omega), rMark_l1, ite_f (by simp <;> omega), gd_pos (by unfold rmB; simp; omega), sumN hn (by simp [hl]; omega), Option.bind_some, gd_pos (by unfold rmB; simp [length_digest]; omega), sumN hn (by simp [hl, length_digest]), Option.bind_some]
  | succ m ih =>
    intro i fu hi hf
    cases fu with
    | zero => omega
    | succ fu =>
      have step : ∀ x : UInt8, x = (padk k).getD i 0 → rMark_j2 n consts begin8.a begin8.b begin8.c begin8.d begin8.e begin8.f begin8.g begin8.h b k (((padk k).take i).map (· ^^^ 54)) (((padk k).take i).map (· ^^^ 92)) (i : Int) (rMark_l1 n consts begin8.a begin8.b begin8.c begin8.d begin8.e begin8.f begin8.g begin8.h b k fu) x = some (Dg ((padk k).map (· ^^^ 92) ++ Dg ((padk k).map (· ^^^ 54) ++ b))) := by
        intro x hx
        unfold rMark_j2
        rw [gd_pos (by unfold rmB; simp; omega), gd_pos (by unfold rmB; simp; omega), gd_pos (okI64 (by omega) (by omega))]
        have := ih (i + 1) fu (by omega) (by omega)
        rw [List.take_succ_eq_append_getElem (by omega), List.map_append, List.map_append] at this
        rw [hx, List.getD_eq_getElem?_getD, List.getElem?_eq_getElem (by omega)]
        exact this
      rw [rMark_l1, ite_t (by simp <;> omega)]
      by_cases hik : i < k.length
      · rw [ite_t (by simp <;> omega), gd_pos (by omega), gd_pos (by omega)]
        refine step _ ?_
        unfold padk
        rw [Int.toNat_natCast, List.getD_eq_getElem?_getD, List.getD_eq_getElem?_getD, List.getElem?_append_left hik]
      · rw [ite_f (by simp <;> omega)]
        refine step _ ?_
        unfold padk
        rw [List.getD_eq_getElem?_getD, List.getElem?_append_right (by omega), List.getElem?_replicate]
        split <;> rfl
theorem rMark_is {n : Nat} (hn : 200 ≤ n) {k b : List UInt8} (hk : k.length ≤ 4000) (hb : b.length ≤ 4000) :
    rMark n consts begin8.a begin8.b begin8.c begin8.d begin8.e begin8.f begin8.g begin8.h k b = some (hmac k b) := by
  have go : ∀ k : List UInt8, k.length ≤ 64 → rMark_j1 n consts begin8.a begin8.b begin8.c begin8.d begin8.e begin8.f begin8.g begin8.h b k = some (Dg ((padk k).map (· ^^^ 92) ++ Dg ((padk k).map (· ^^^ 54) ++ b))) := by
    intro k hk
    unfold rMark_j1
    exact rMark_l1_is hn b k hk hb 64 0 n (by omega) (by omega)
  unfold rMark hmac
  have hl := hkey_len k
  by_cases h : 64 < k.length
  · rw [ite_t (by simp <;> omega), sumN hn (by omega), Option.bind_some, go _ (by rw [length_digest]; omega)]
    unfold hkey; rw [if_pos h]
  · rw [ite_f (by simp <;> omega), go _ (by omega)]
    unfold hkey; rw [if_neg h]
theorem rDerive_l3_is (n : Nat) (ks : List UInt32) (c0 c1 c2 c3 c4 c5 c6 c7 : UInt32) (a0 a1 : List UInt8) (a2 a3 : Int) (l11 : List UInt8) (i12 : Int) (r38 : List UInt8) (h38 : r38.length = 32) (j : Nat) (hj : j ≤ 100000) (u : List UInt8) (hu : u.length = 32) (al : List UInt8) (k : List UInt8 → List UInt8 → Int → Option (List UInt8 × Nat)) :
    ∀ (m i fu : Nat), i + m = 32 → m < fu → rDerive_l3 n ks c0 c1 c2 c3 c4 c5 c6 c7 a0 a1 a2 a3 l11 i12 r38 (j : Int) u k fu (xorN al u i) (i : Int) = k u (xorN al u 32) ((j : Int) + 1) := by
  intro m
  induction m with
  | zero =>
    intro i fu hi hf
    obtain rfl : i = 32 := by omega
    cases fu with
    | zero => omega
    | succ fu => rw [rDerive_l3, ite_f (by simp <;> omega), gd_pos (okI64 (by omega) (by omega))]
  | succ m ih =>
    intro i fu hi hf
    have e : ([] ++ r38).length = 32 := h38
    cases fu with
    | zero => omega
    | succ fu =>
      rw [rDerive_l3, ite_t (by simp <;> omega), gd_pos (by omega), gd_pos (by omega), gd_pos (by omega), gd_pos (by omega), gd_pos (by omega), gd_pos (by omega), gd_pos (okI64 (by omega) (by omega)), Int.toNat_natCast, xorN_succ]
      exact ih (i + 1) fu (by omega) (by omega)
theorem rDerive_l2_is {n : Nat} (hn : 200 ≤ n) (a0 a1 : List UInt8) (h0 : a0.length ≤ 4000) (r : Nat) (hr : r ≤ 10000) (hr1 : 1 ≤ r) (a3 : Int) (l11 : List UInt8) (h11 : l11.length ≤ 1000000) (i12 : Nat) (h12 : i12 ≤ 1000000) (r38 : List UInt8) (h38 : r38.length = 32) (k : List UInt8 → Int → Option (List UInt8 × Nat)) :
    ∀ (m j fu : Nat) (p : List UInt8 × List UInt8), j + m = r → 1 ≤ j → m < fu → p.1.length = 32 → rDerive_l2 n consts begin8.a begin8.b begin8.c begin8.d begin8.e begin8.f begin8.g begin8.h a0 a1 (r : Int) a3 l11 (i12 : Int) r38 k fu p.1 p.2 (j : Int) = k (l11 ++ (rnd a0 m p).2) ((i12 : Int) + 1) := by
  intro m
  induction m with
  | zero =>
    intro j fu p hj hj1 hf hp
    cases fu with
    | zero => omega
    | succ fu =>
      have e : ([] ++ r38).length = 32 := h38
      rw [rDerive_l2, ite_f (by simp <;> omega), gd_pos (by unfold rmB; omega), gd_pos (okI64 (by omega) (by omega))]; rfl
  | succ m ih =>
    intro j fu p hj hj1 hf hp
    cases fu with
    | zero => omega
    | succ fu =>
      rw [rDerive_l2, ite_t (by simp <;> omega), rMark_is hn h0 (by omega), Option.bind_some]
      have h3 := rDerive_l3_is n consts begin8.a begin8.b begin8.c begin8.d begin8.e begin8.f begin8.g begin8.h a0 a1 (r : Int) a3 l11 i12 r38 h38 j (by omega) (hmac a0 p.1) (hmac_len _ _) p.2 (rDerive_l2 n consts begin8.a begin8.b begin8.c begin8.d begin8.e begin8.f begin8.g begin8.h a0 a1 (r : Int) a3 l11 i12 r38 k fu) 32 0 n (by omega) (by omega)
      rw [show ((0 : Nat) : Int) = 0 from rfl] at h3
      rw [xorN_zero] at h3
      rw [h3, rnd]
      have hl := hmac_len a0 p.1
      generalize xorN p.2 (hmac a0 p.1) 32 = z
      generalize hmac a0 p.1 = u at hl ⊢
      exact ih (j + 1) fu (u, z) (by omega) (by omega) (by omega) hl
theorem of_rem (i : Nat) : UInt8.ofInt (Int.tmod (i : Int) 256) = UInt8.ofInt (i : Int) := by
  rw [Int.tmod_eq_emod_of_nonneg (by omega)]
  have h8 : ∀ t : Int, (UInt8.ofInt t).toNat = (t % 256).toNat := fun t => by simp [UInt8.ofInt]; omega
  apply UInt8.toNat_inj.1
  rw [h8, h8]; omega
theorem rDerive_l1_is {n : Nat} (hn : 100000 ≤ n) (a0 a1 : List UInt8) (h0 : a0.length ≤ 3000) (h1 : a1.length ≤ 3000) (r : Nat) (hr : r ≤ 10000) (hr1 : 1 ≤ r) (len : Nat) (hl : len ≤ 1000) (M : Nat) (hM : len ≤ 32 * M) (hM2 : M = 0 ∨ 32 * (M - 1) < len) :
    ∀ (m i fu : Nat), i + m = M → m < fu → rDerive_l1 n consts begin8.a begin8.b begin8.c begin8.d begin8.e begin8.f begin8.g begin8.h a0 a1 (r : Int) (len : Int) fu (outS a0 a1 r i) ((i : Int) + 1) = some (((outS a0 a1 r M).drop 0).take len, len) := by
  intro m
  induction m with
  | zero =>
    intro i fu hi hf
    obtain rfl : i = M := by omega
    have ho := outS_len a0 a1 r i
    cases fu with
    | zero => omega
    | succ fu => rw [rDerive_l1, ite_f (by simp <;> omega), gd_pos (by omega), gd_pos (by omega), Int.toNat_natCast]
  | succ m ih =>
    intro i fu hi hf
    have ho := outS_len a0 a1 r i
    cases fu with
    | zero => omega
    | succ fu =>
      have hb : (((i : Int) + 1) = ((i + 1 : Nat) : Int)) := by omega
      have hd : Int.tdiv ((i + 1 : Nat) : Int) 256 = ((i + 1 : Nat) : Int) / 2 ^ 8 := by rw [Int.tdiv_eq_ediv_of_nonneg (by omega)]; rfl
      rw [rDerive_l1, ite_t (by simp <;> omega), hb, hd, of_rem, List.nil_append, gd_pos (by unfold rmB; omega), gd_pos (by decide), gd_pos (okI64 (by omega) (by omega)), gd_pos (by decide), gd_pos (by unfold rmB; omega), rMark_is (by omega) (by omega) (by simp; omega), Option.bind_some, gd_pos (by unfold rmB; rw [hmac_len]; omega), List.nil_append]
      have h2 := rDerive_l2_is (n := n) (by omega) a0 a1 (by omega) r hr hr1 (len : Int) (outS a0 a1 r i) (by omega) (i + 1) (by omega) (hmac a0 (a1 ++ [0, 0, UInt8.ofInt (((i + 1 : Nat) : Int) / 2 ^ 8), UInt8.ofInt ((i + 1 : Nat) : Int)])) (hmac_len _ _) (rDerive_l1 n consts begin8.a begin8.b begin8.c begin8.d begin8.e begin8.f begin8.g begin8.h a0 a1 (r : Int) (len : Int) fu) (r - 1) 1 n (hmac a0 (a1 ++ [0, 0, UInt8.ofInt (((i + 1 : Nat) : Int) / 2 ^ 8), UInt8.ofInt ((i + 1 : Nat) : Int)]), hmac a0 (a1 ++ [0, 0, UInt8.ofInt (((i + 1 : Nat) : Int) / 2 ^ 8), UInt8.ofInt ((i + 1 : Nat) : Int)])) (by omega) (by omega) (by omega) (hmac_len _ _)
      rw [show ((1 : Nat) : Int) = 1 from rfl] at h2
      rw [h2]
      exact ih (i + 1) fu (by omega) (by omega)
theorem rDerive_is {n : Nat} (hn : 100000 ≤ n) {a0 a1 : List UInt8} (h0 : a0.length ≤ 3000) (h1 : a1.length ≤ 3000) {r len : Nat} (hr1 : 1 ≤ r) (hr : r ≤ 10000) (hl : len ≤ 256) :
    rDerive n consts begin8.a begin8.b begin8.c begin8.d begin8.e begin8.f begin8.g begin8.h a0 a1 (r : Int) (len : Int) = some (((outS a0 a1 r ((len + 31) / 32)).drop 0).take len, len) := by
  unfold rDerive
  exact rDerive_l1_is hn a0 a1 h0 h1 r hr hr1 len (by omega) _ (by omega) (by omega) ((len + 31) / 32) 0 n (by omega) (by omega)
end Go.Sx
end
section
set_option linter.unusedVariables false
set_option linter.unusedSimpArgs false
namespace Go.Proofs.YtamddohbpdbdmaaDoor
open Go.RowKit Go.Ch Go.Sx
def tabL_mvderives : List (TypeId × Ti) := [(3, ⟨.int .i64, 1, 8, true, some [.int .i64]⟩),
  (5, ⟨.int .u8, 1, 1, true, some [.int .u8]⟩),
  (9, ⟨.str, 1, 16, true, some [.str]⟩),
  (22, ⟨.sl 5, 1, 24, false, some [.nils]⟩),
  (35, ⟨.ifc, 1, 16, true, some [.ifc]⟩),
  (38, ⟨.int .i64, 1, 8, true, some [.int .i64]⟩)]
def tab_mvderives : Tab := fun t => (tabL_mvderives).lookup t
theorem tabE_mvderives : (tabL_mvderives.map fun p => tiOf Tryd.prog p.1) = tabL_mvderives.map fun p => some p.2 := by kernel_rfl
theorem tabO_mvderives : TabOk Tryd.prog tab_mvderives := tab_of tabE_mvderives
def lDerives_j1 (n : Nat) (a0 : List UInt8) (a1 : List UInt8) (a3 : Int) (r12 : Bool) (r14 : List UInt8 × Nat) (r16 : List UInt8 × Nat) (i2_2 : Int) : Option (Bool) :=
  (mDerive n ((a0.drop 0).take r14.2) ((a1.drop 0).take r16.2) i2_2 a3).bind fun r30_2 =>
  bif (decide (i2_2 < (1 : Int))) then
    bif r12 then
      gd (¬((r30_2.2.2 : Option Int) = none ∧ ((some 1) : Option Int) = none)) <|
      bif (r30_2.2.2 == (some 1)) then
        some (((r30_2.2.1 : Nat) : Int) == 0)
      else
        some false
    else
      some false
  else
    bif (decide (a3 < (0 : Int))) then
      bif r12 then
        gd (¬((r30_2.2.2 : Option Int) = none ∧ ((some 1) : Option Int) = none)) <|
        bif (r30_2.2.2 == (some 1)) then
          some (((r30_2.2.1 : Nat) : Int) == 0)
        else
          some false
      else
        some false
    else
      bif (decide ((10000 : Int) < i2_2)) then
        bif r12 then
          gd (¬((r30_2.2.2 : Option Int) = none ∧ ((some 4) : Option Int) = none)) <|
          bif (r30_2.2.2 == (some 4)) then
            some (((r30_2.2.1 : Nat) : Int) == 0)
          else
            some false
        else
          some false
      else
        bif (decide ((256 : Int) < a3)) then
          bif r12 then
            gd (¬((r30_2.2.2 : Option Int) = none ∧ ((some 4) : Option Int) = none)) <|
            bif (r30_2.2.2 == (some 4)) then
              some (((r30_2.2.1 : Nat) : Int) == 0)
            else
              some false
          else
            some false
        else
          bif r12 then
            bif ((r30_2.2.2).isNone) then
              (made n).bind fun r75 =>
              (rDerive n r75.1 r75.2.1 r75.2.2.1 r75.2.2.2.1 r75.2.2.2.2.1 r75.2.2.2.2.2.1 r75.2.2.2.2.2.2.1 r75.2.2.2.2.2.2.2.1 r75.2.2.2.2.2.2.2.2 ((a0.drop 0).take r14.2) ((a1.drop 0).take r16.2) i2_2 a3).bind fun r80_2 =>
              some (((r30_2.1.drop 0).take r30_2.2.1) == r80_2.1)
            else
              some false
          else
            some false
def lDerives (n : Nat) (a0 : List UInt8) (a1 : List UInt8) (a2 : Int) (a3 : Int) : Option (Bool) :=
  (mup n).bind fun r12 =>
  (mcut n a0 200).bind fun r14 =>
  (mcut n a1 200).bind fun r16 =>
  bif (decide ((6 : Int) < a2)) then
    bif (decide (a2 ≤ (10000 : Int))) then
      gd ((7 : Int) ≠ 0) <|
      lDerives_j1 n a0 a1 a3 r12 r14 r16 (Int.tmod a2 7)
    else
      lDerives_j1 n a0 a1 a3 r12 r14 r16 a2
  else
    lDerives_j1 n a0 a1 a3 r12 r14 r16 a2
def lDerives_j1_E (a0 : List UInt8) (a1 : List UInt8) (a3 : Int) (r12 : Bool) (r14 : List UInt8 × Nat) (r16 : List UInt8 × Nat) (i2_2 : Int) : S := ⟨[(0, .c (.wh 0)), (1, .c (.wh 1)), (2, .c (.s (.k .i64 i2_2))), (3, .c (.s (.k .i64 a3))), (9, .c (.s (.b r12)))], [], [⟨(.ro false), 5, 1, r14.2, .b ((a0.drop 0).take r14.2)⟩, ⟨(.ro false), 5, 1, r16.2, .b ((a1.drop 0).take r16.2)⟩]⟩
def lDerives_j1_P (n : Nat) (a0 : List UInt8) (a1 : List UInt8) (a3 : Int) (r12 : Bool) (r14 : List UInt8 × Nat) (r16 : List UInt8 × Nat) (r : Bool) : S → Prop := fun s => ∃ (i2_2 : Int), s = lDerives_j1_E a0 a1 a3 r12 r14 r16 i2_2 ∧ lDerives_j1 n a0 a1 a3 r12 r14 r16 i2_2 = some r
theorem lDerives_j1_M {n : Nat} {a0 : List UInt8} {a1 : List UInt8} {a3 : Int} {r12 : Bool} {r14 : List UInt8 × Nat} {r16 : List UInt8 × Nat} {i2_2 : Int} {r : Bool} (h : lDerives_j1 n a0 a1 a3 r12 r14 r16 i2_2 = some r) : lDerives_j1_P n a0 a1 a3 r12 r14 r16 r (lDerives_j1_E a0 a1 a3 r12 r14 r16 i2_2) := ⟨i2_2, rfl, h⟩
def lDerives_R (r : Bool) : S := ⟨[(8, .c (.s (.b r)))], [], []⟩
def lDerives_ct (n : Nat) (r : Bool) : Ct := fun args H => match args with
  | [x0, x1, x2, x3] => (match aB H x0 with | some l0 => (match aB H x1 with | some l1 => (match aI x2 with | some l2 => (match aI x3 with | some l3 => some ([lDerives n l0 l1 l2 l3 = some r], shA H.length (.c (.s (.b r))), shH H.length []) | none => none) | none => none) | none => none) | none => none)
  | _ => none
theorem lDerives_ok (n : Nat) (r : Bool) : FnOk Tryd.prog GK 4 (lDerives_ct n r) := by
  refine ⟨fun args H g av objs hF hg ρ w vals hG hp ha => ?_, _, Tryd.func4, by kernel_rfl, by kernel_rfl⟩
  obtain ⟨x0, x1, x2, x3, rfl⟩ : ∃ x0 x1 x2 x3, args = [x0, x1, x2, x3] := by
    unfold lDerives_ct at hF; split at hF
    · exact ⟨_, _, _, _, rfl⟩
    · cases hF
  cases e0 : aB H x0 with
  | none => simp only [lDerives_ct, e0, reduceCtorEq] at hF
  | some l0 =>
  cases e1 : aB H x1 with
  | none => simp only [lDerives_ct, e0, e1, reduceCtorEq] at hF
  | some l1 =>
  cases e2 : aI x2 with
  | none => simp only [lDerives_ct, e0, e1, e2, reduceCtorEq] at hF
  | some l2 =>
  cases e3 : aI x3 with
  | none => simp only [lDerives_ct, e0, e1, e2, e3, reduceCtorEq] at hF
  | some l3 =>
  simp only [lDerives_ct, e0, e1, e2, e3, Option.some.injEq, Prod.mk.injEq] at hF
  obtain ⟨rfl, rfl, rfl⟩ := hF
  obtain ⟨v0, vals, rfl, k0, ha⟩ := F2.inv ha
  obtain ⟨v1, vals, rfl, k1, ha⟩ := F2.inv ha
  obtain ⟨v2, vals, rfl, k2, ha⟩ := F2.inv ha
  obtain ⟨v3, vals, rfl, k3, ha⟩ := F2.inv ha
  obtain rfl := F2.inv0 ha
  have hI : ∀ w', Kp (noB (fun _ => undef)) w w' → GK w' := fun _ hk => GK.keep hk.below hG
  have h : lDerives n l0 l1 l2 l3 = some r := hg
  obtain ⟨p0, s0, o0⟩ := aB_ok hp e0 (k0) 5
  obtain ⟨p1, s1, o1⟩ := aB_ok hp e1 (k1) 5
  have s2 := aI_ok e2 (k2)
  have s3 := aI_ok e3 (k3)
  have hR0 := rel0 (gv := (fun _ => undef)) (n := 84) (w := w) (args := [.c (.wh 0), .c (.wh 1), .c (.s (.k .i64 l2)), .c (.s (.k .i64 l3))]) (H := [⟨.ro false, 5, 1, l0.length, .b l0⟩, ⟨.ro false, 5, 1, l1.length, .b l1⟩]) (gl := []) (hpL (ps := [p0, p1]) (F2.cons o0 (F2.cons o1 F2.nil))) (allRo_ok rfl) (F2.cons s0 (F2.cons s1 (F2.cons s2 (F2.cons s3 F2.nil)))) GlR.nil (by simp)
  clear ha hp hg k0 k1 k2 k3 e0 e1 e2 e3
  refine calls_W Tryd.func4 rfl rfl hR0 (Q := fun e s => (e = .ret ∨ e = .normal) ∧ s = lDerives_R r) ?_ ?_
  · clear hR0
    unfold lDerives at h
    have hT := tabO_mvderives
    refine W_seq ?_
    refine W_reg hT ftL_nil [] [] [0, 1, 2, 3] [0, 1] (s' := ⟨[(0, .c (.wh 0)), (1, .c (.wh 1)), (2, .c (.s (.k .i64 l2))), (3, .c (.s (.k .i64 l3)))], [], [⟨(.ro false), 5, 1, l0.length, .b l0⟩, ⟨(.ro false), 5, 1, l1.length, .b l1⟩]⟩) (by kernel_rfl) allP_nil ?_
    refine W_seq ?_
    obtain ⟨r12, g1, h⟩ := bind_some' h
    refine W_reg hT (ftL_cons (k := 0) (f := 9) (F := (mup_ct n r12)) (mup_ok n r12) hI ftL_nil) [] [] [0, 1, 2, 3, 9] [0, 1] (s' := ⟨[(0, .c (.wh 0)), (1, .c (.wh 1)), (2, .c (.s (.k .i64 l2))), (3, .c (.s (.k .i64 l3))), (9, .c (.s (.b r12)))], [], [⟨(.ro false), 5, 1, l0.length, .b l0⟩, ⟨(.ro false), 5, 1, l1.length, .b l1⟩]⟩) (by kernel_rfl) (allP_cons.2 ⟨g1, allP_nil⟩) ?_
    refine W_seq ?_
    obtain ⟨r14, g2, h⟩ := bind_some' h
    refine W_reg hT (ftL_cons (k := 1) (f := 10) (F := (mcut_ct n r14)) (mcut_ok n r14) (fun _ _ => True.intro) ftL_nil) [] [] [0, 1, 2, 3, 9] [0, 1] (s' := ⟨[(0, .c (.sl 0 0 r14.2)), (1, .c (.wh 1)), (2, .c (.s (.k .i64 l2))), (3, .c (.s (.k .i64 l3))), (9, .c (.s (.b r12)))], [], [⟨(.ro false), 5, 1, l0.length, .b l0⟩, ⟨(.ro false), 5, 1, l1.length, .b l1⟩]⟩) (by kernel_rfl) (allP_cons.2 ⟨g2, allP_nil⟩) ?_
    refine W_seq ?_
    obtain ⟨r16, g3, h⟩ := bind_some' h
    refine W_reg hT (ftL_cons (k := 1) (f := 10) (F := (mcut_ct n r16)) (mcut_ok n r16) (fun _ _ => True.intro) ftL_nil) [] [] [0, 1, 2, 3, 9] [0, 1] (s' := ⟨[(0, .c (.sl 0 0 r14.2)), (1, .c (.sl 1 0 r16.2)), (2, .c (.s (.k .i64 l2))), (3, .c (.s (.k .i64 l3))), (9, .c (.s (.b r12)))], [], [⟨(.ro false), 5, 1, l0.length, .b l0⟩, ⟨(.ro false), 5, 1, l1.length, .b l1⟩]⟩) (by kernel_rfl) (allP_cons.2 ⟨g3, allP_nil⟩) ?_
    refine W_join (lDerives_j1_P n l0 l1 l3 r12 r14 r16 r) ?_ ?_
    · rintro _ ⟨i2_2, rfl, h⟩
      unfold lDerives_j1 at h
      refine W_seq ?_
      obtain ⟨r30_2, g4, h⟩ := bind_some' h
      refine W_reg hT (ftL_cons (k := 4) (f := 14) (F := (mDerive_ct n r30_2)) (mDerive_ok n r30_2) hI ftL_nil) [] [] [0, 1, 2, 3, 9, 10, 11] [0, 1, 2] (s' := ⟨[(0, .c (.wh 0)), (1, .c (.wh 1)), (2, .c (.s (.k .i64 i2_2))), (3, .c (.s (.k .i64 l3))), (9, .c (.s (.b r12))), (10, .c (.sl 2 0 r30_2.2.1)), (11, .c (.s (.er 38 .i64 r30_2.2.2)))], [], [⟨(.ro false), 5, 1, r14.2, .b ((l0.drop 0).take r14.2)⟩, ⟨(.ro false), 5, 1, r16.2, .b ((l1.drop 0).take r16.2)⟩, ⟨.row, 5, 1, r30_2.1.length, .b r30_2.1⟩]⟩) (by kernel_rfl) (allP_cons.2 ⟨g4, allP_nil⟩) ?_
      refine W_seq ?_
      refine W_seq ?_
      rcases Bool.eq_false_or_eq_true (decide (i2_2 < (1 : Int))) with g5 | g5
      · replace h := bif_t h g5
        refine W_reg hT ftL_nil [(2, true)] [] [0, 1, 2, 3, 9, 10, 11, 38] [0, 1, 2] (s' := ⟨[(0, .c (.wh 0)), (1, .c (.wh 1)), (2, .c (.s (.k .i64 i2_2))), (3, .c (.s (.k .i64 l3))), (9, .c (.s (.b r12))), (10, .c (.sl 2 0 r30_2.2.1)), (11, .c (.s (.er 38 .i64 r30_2.2.2))), (38, .c (.s (.b true)))], [], [⟨(.ro false), 5, 1, r14.2, .b ((l0.drop 0).take r14.2)⟩, ⟨(.ro false), 5, 1, r16.2, .b ((l1.drop 0).take r16.2)⟩, ⟨.row, 5, 1, r30_2.1.length, .b r30_2.1⟩]⟩) (by kernel_rfl) (allP_cons.2 ⟨g5, allP_nil⟩) ?_
        refine W_cond (b := true) (by kernel_rfl) (fun _ => ?_) (fun hb => by cases hb)
        refine W_seq ?_
        rcases Bool.eq_false_or_eq_true r12 with g6 | g6
        · replace h := bif_t h g6
          obtain ⟨g7, h⟩ := gd_some h
          rcases Bool.eq_false_or_eq_true (r30_2.2.2 == (some 1)) with g8 | g8
          · replace h := bif_t h g8
            refine W_reg hT ftL_nil [(1, true), (6, true)] [] [8] [] (s' := ⟨[(8, .c (.s (.b (((r30_2.2.1 : Nat) : Int) == 0))))], [], []⟩) (by kernel_rfl) (allP_cons.2 ⟨g6, (allP_cons.2 ⟨g7, (allP_cons.2 ⟨g8, allP_nil⟩)⟩)⟩) ?_
            refine W_co [] [8] [] (s' := (lDerives_R (((r30_2.2.1 : Nat) : Int) == 0))) (by kernel_rfl) (W_ret ?_)
            exact ⟨.inl rfl, by cases h; rfl⟩
          · replace h := bif_f h g8
            refine W_reg hT ftL_nil [(1, true), (6, false)] [] [8] [] (s' := ⟨[(8, .c (.s (.b false)))], [], []⟩) (by kernel_rfl) (allP_cons.2 ⟨g6, (allP_cons.2 ⟨g7, (allP_cons.2 ⟨g8, allP_nil⟩)⟩)⟩) ?_
            refine W_co [] [8] [] (s' := (lDerives_R false)) (by kernel_rfl) (W_ret ?_)
            exact ⟨.inl rfl, by cases h; rfl⟩
        · replace h := bif_f h g6
          refine W_reg hT ftL_nil [(1, false)] [] [8] [] (s' := ⟨[(8, .c (.s (.b false)))], [], []⟩) (by kernel_rfl) (allP_cons.2 ⟨g6, allP_nil⟩) ?_
          refine W_co [] [8] [] (s' := (lDerives_R false)) (by kernel_rfl) (W_ret ?_)
          exact ⟨.inl rfl, by cases h; rfl⟩
      · replace h := bif_f h g5
        refine W_reg hT ftL_nil [(2, false)] [] [0, 1, 2, 3, 9, 10, 11, 38] [0, 1, 2] (s' := ⟨[(0, .c (.wh 0)), (1, .c (.wh 1)), (2, .c (.s (.k .i64 i2_2))), (3, .c (.s (.k .i64 l3))), (9, .c (.s (.b r12))), (10, .c (.sl 2 0 r30_2.2.1)), (11, .c (.s (.er 38 .i64 r30_2.2.2))), (38, .c (.s (.b (decide (l3 < (0 : Int))))))], [], [⟨(.ro false), 5, 1, r14.2, .b ((l0.drop 0).take r14.2)⟩, ⟨(.ro false), 5, 1, r16.2, .b ((l1.drop 0).take r16.2)⟩, ⟨.row, 5, 1, r30_2.1.length, .b r30_2.1⟩]⟩) (by kernel_rfl) (allP_cons.2 ⟨g5, allP_nil⟩) ?_
        refine W_cond (b := (decide (l3 < (0 : Int)))) (by kernel_rfl) (fun g24 => ?_) (fun g24 => ?_)
        · replace h := bif_t h g24
          refine W_seq ?_
          rcases Bool.eq_false_or_eq_true r12 with g9 | g9
          · replace h := bif_t h g9
            obtain ⟨g10, h⟩ := gd_some h
            rcases Bool.eq_false_or_eq_true (r30_2.2.2 == (some 1)) with g11 | g11
            · replace h := bif_t h g11
              refine W_reg hT ftL_nil [(1, true), (6, true)] [] [8] [] (s' := ⟨[(8, .c (.s (.b (((r30_2.2.1 : Nat) : Int) == 0))))], [], []⟩) (by kernel_rfl) (allP_cons.2 ⟨g9, (allP_cons.2 ⟨g10, (allP_cons.2 ⟨g11, allP_nil⟩)⟩)⟩) ?_
              refine W_co [] [8] [] (s' := (lDerives_R (((r30_2.2.1 : Nat) : Int) == 0))) (by kernel_rfl) (W_ret ?_)
              exact ⟨.inl rfl, by cases h; rfl⟩
            · replace h := bif_f h g11
              refine W_reg hT ftL_nil [(1, true), (6, false)] [] [8] [] (s' := ⟨[(8, .c (.s (.b false)))], [], []⟩) (by kernel_rfl) (allP_cons.2 ⟨g9, (allP_cons.2 ⟨g10, (allP_cons.2 ⟨g11, allP_nil⟩)⟩)⟩) ?_
              refine W_co [] [8] [] (s' := (lDerives_R false)) (by kernel_rfl) (W_ret ?_)
              exact ⟨.inl rfl, by cases h; rfl⟩
          · replace h := bif_f h g9
            refine W_reg hT ftL_nil [(1, false)] [] [8] [] (s' := ⟨[(8, .c (.s (.b false)))], [], []⟩) (by kernel_rfl) (allP_cons.2 ⟨g9, allP_nil⟩) ?_
            refine W_co [] [8] [] (s' := (lDerives_R false)) (by kernel_rfl) (W_ret ?_)
            exact ⟨.inl rfl, by cases h; rfl⟩
        · replace h := bif_f h g24
          refine W_co [] [0, 1, 2, 3, 9, 10, 11] [0, 1, 2] (s' := ⟨[(0, .c (.wh 0)), (1, .c (.wh 1)), (2, .c (.s (.k .i64 i2_2))), (3, .c (.s (.k .i64 l3))), (9, .c (.s (.b r12))), (10, .c (.sl 2 0 r30_2.2.1)), (11, .c (.s (.er 38 .i64 r30_2.2.2)))], [], [⟨(.ro false), 5, 1, r14.2, .b ((l0.drop 0).take r14.2)⟩, ⟨(.ro false), 5, 1, r16.2, .b ((l1.drop 0).take r16.2)⟩, ⟨.row, 5, 1, r30_2.1.length, .b r30_2.1⟩]⟩) (by kernel_rfl) (W_skip ?_)
          refine W_seq ?_
          refine W_seq ?_
          rcases Bool.eq_false_or_eq_true (decide ((10000 : Int) < i2_2)) with g12 | g12
          · replace h := bif_t h g12
            refine W_reg hT ftL_nil [(2, true)] [] [0, 1, 2, 3, 9, 10, 11, 55] [0, 1, 2] (s' := ⟨[(0, .c (.wh 0)), (1, .c (.wh 1)), (2, .c (.s (.k .i64 i2_2))), (3, .c (.s (.k .i64 l3))), (9, .c (.s (.b r12))), (10, .c (.sl 2 0 r30_2.2.1)), (11, .c (.s (.er 38 .i64 r30_2.2.2))), (55, .c (.s (.b true)))], [], [⟨(.ro false), 5, 1, r14.2, .b ((l0.drop 0).take r14.2)⟩, ⟨(.ro false), 5, 1, r16.2, .b ((l1.drop 0).take r16.2)⟩, ⟨.row, 5, 1, r30_2.1.length, .b r30_2.1⟩]⟩) (by kernel_rfl) (allP_cons.2 ⟨g12, allP_nil⟩) ?_
            refine W_cond (b := true) (by kernel_rfl) (fun _ => ?_) (fun hb => by cases hb)
            refine W_seq ?_
            rcases Bool.eq_false_or_eq_true r12 with g13 | g13
            · replace h := bif_t h g13
              obtain ⟨g14, h⟩ := gd_some h
              rcases Bool.eq_false_or_eq_true (r30_2.2.2 == (some 4)) with g15 | g15
              · replace h := bif_t h g15
                refine W_reg hT ftL_nil [(1, true), (6, true)] [] [8] [] (s' := ⟨[(8, .c (.s (.b (((r30_2.2.1 : Nat) : Int) == 0))))], [], []⟩) (by kernel_rfl) (allP_cons.2 ⟨g13, (allP_cons.2 ⟨g14, (allP_cons.2 ⟨g15, allP_nil⟩)⟩)⟩) ?_
                refine W_co [] [8] [] (s' := (lDerives_R (((r30_2.2.1 : Nat) : Int) == 0))) (by kernel_rfl) (W_ret ?_)
                exact ⟨.inl rfl, by cases h; rfl⟩
              · replace h := bif_f h g15
                refine W_reg hT ftL_nil [(1, true), (6, false)] [] [8] [] (s' := ⟨[(8, .c (.s (.b false)))], [], []⟩) (by kernel_rfl) (allP_cons.2 ⟨g13, (allP_cons.2 ⟨g14, (allP_cons.2 ⟨g15, allP_nil⟩)⟩)⟩) ?_
                refine W_co [] [8] [] (s' := (lDerives_R false)) (by kernel_rfl) (W_ret ?_)
                exact ⟨.inl rfl, by cases h; rfl⟩
            · replace h := bif_f h g13
              refine W_reg hT ftL_nil [(1, false)] [] [8] [] (s' := ⟨[(8, .c (.s (.b false)))], [], []⟩) (by kernel_rfl) (allP_cons.2 ⟨g13, allP_nil⟩) ?_
              refine W_co [] [8] [] (s' := (lDerives_R false)) (by kernel_rfl) (W_ret ?_)
              exact ⟨.inl rfl, by cases h; rfl⟩
          · replace h := bif_f h g12
            refine W_reg hT ftL_nil [(2, false)] [] [0, 1, 2, 3, 9, 10, 11, 55] [0, 1, 2] (s' := ⟨[(0, .c (.wh 0)), (1, .c (.wh 1)), (2, .c (.s (.k .i64 i2_2))), (3, .c (.s (.k .i64 l3))), (9, .c (.s (.b r12))), (10, .c (.sl 2 0 r30_2.2.1)), (11, .c (.s (.er 38 .i64 r30_2.2.2))), (55, .c (.s (.b (decide ((256 : Int) < l3)))))], [], [⟨(.ro false), 5, 1, r14.2, .b ((l0.drop 0).take r14.2)⟩, ⟨(.ro false), 5, 1, r16.2, .b ((l1.drop 0).take r16.2)⟩, ⟨.row, 5, 1, r30_2.1.length, .b r30_2.1⟩]⟩) (by kernel_rfl) (allP_cons.2 ⟨g12, allP_nil⟩) ?_
            refine W_cond (b := (decide ((256 : Int) < l3))) (by kernel_rfl) (fun g23 => ?_) (fun g23 => ?_)
            · replace h := bif_t h g23
              refine W_seq ?_
              rcases Bool.eq_false_or_eq_true r12 with g16 | g16
              · replace h := bif_t h g16
                obtain ⟨g17, h⟩ := gd_some h
                rcases Bool.eq_false_or_eq_true (r30_2.2.2 == (some 4)) with g18 | g18
                · replace h := bif_t h g18
                  refine W_reg hT ftL_nil [(1, true), (6, true)] [] [8] [] (s' := ⟨[(8, .c (.s (.b (((r30_2.2.1 : Nat) : Int) == 0))))], [], []⟩) (by kernel_rfl) (allP_cons.2 ⟨g16, (allP_cons.2 ⟨g17, (allP_cons.2 ⟨g18, allP_nil⟩)⟩)⟩) ?_
                  refine W_co [] [8] [] (s' := (lDerives_R (((r30_2.2.1 : Nat) : Int) == 0))) (by kernel_rfl) (W_ret ?_)
                  exact ⟨.inl rfl, by cases h; rfl⟩
                · replace h := bif_f h g18
                  refine W_reg hT ftL_nil [(1, true), (6, false)] [] [8] [] (s' := ⟨[(8, .c (.s (.b false)))], [], []⟩) (by kernel_rfl) (allP_cons.2 ⟨g16, (allP_cons.2 ⟨g17, (allP_cons.2 ⟨g18, allP_nil⟩)⟩)⟩) ?_
                  refine W_co [] [8] [] (s' := (lDerives_R false)) (by kernel_rfl) (W_ret ?_)
                  exact ⟨.inl rfl, by cases h; rfl⟩
              · replace h := bif_f h g16
                refine W_reg hT ftL_nil [(1, false)] [] [8] [] (s' := ⟨[(8, .c (.s (.b false)))], [], []⟩) (by kernel_rfl) (allP_cons.2 ⟨g16, allP_nil⟩) ?_
                refine W_co [] [8] [] (s' := (lDerives_R false)) (by kernel_rfl) (W_ret ?_)
                exact ⟨.inl rfl, by cases h; rfl⟩
            · replace h := bif_f h g23
              refine W_co [] [0, 1, 2, 3, 9, 10, 11] [0, 1, 2] (s' := ⟨[(0, .c (.wh 0)), (1, .c (.wh 1)), (2, .c (.s (.k .i64 i2_2))), (3, .c (.s (.k .i64 l3))), (9, .c (.s (.b r12))), (10, .c (.sl 2 0 r30_2.2.1)), (11, .c (.s (.er 38 .i64 r30_2.2.2)))], [], [⟨(.ro false), 5, 1, r14.2, .b ((l0.drop 0).take r14.2)⟩, ⟨(.ro false), 5, 1, r16.2, .b ((l1.drop 0).take r16.2)⟩, ⟨.row, 5, 1, r30_2.1.length, .b r30_2.1⟩]⟩) (by kernel_rfl) (W_skip ?_)
              refine W_seq ?_
              rcases Bool.eq_false_or_eq_true r12 with g19 | g19
              · replace h := bif_t h g19
                rcases Bool.eq_false_or_eq_true ((r30_2.2.2).isNone) with g20 | g20
                · replace h := bif_t h g20
                  obtain ⟨r75, g21, h⟩ := bind_some' h
                  obtain ⟨r80_2, g22, h⟩ := bind_some' h
                  refine W_regD hT (ftL_cons (k := 8) (f := 13) (F := (made_ct n r75)) (made_ok n r75) (fun _ _ => True.intro) (ftL_cons (k := 13) (f := 15) (F := (rDerive_ct n r80_2)) (rDerive_ok n r80_2) (fun _ _ => True.intro) ftL_nil)) (by kernel_rfl) 15 [(1, true), (5, true)] [(72, false), (74, false), (81, false)] [] [8] [] (s' := ⟨[(8, .c (.s (.b (((r30_2.1.drop 0).take r30_2.2.1) == r80_2.1))))], [], []⟩) (by kernel_rfl) (by kernel_rfl) (allP_cons.2 ⟨g19, (allP_cons.2 ⟨g20, (allP_cons.2 ⟨g21, (allP_cons.2 ⟨g22, allP_nil⟩)⟩)⟩)⟩) ?_
                  refine W_co [] [8] [] (s' := (lDerives_R (((r30_2.1.drop 0).take r30_2.2.1) == r80_2.1))) (by kernel_rfl) (W_ret ?_)
                  exact ⟨.inl rfl, by cases h; rfl⟩
                · replace h := bif_f h g20
                  refine W_regD hT ftL_nil (by kernel_rfl) 15 [(1, true), (5, false)] [(72, false), (74, false), (81, false)] [] [8] [] (s' := ⟨[(8, .c (.s (.b false)))], [], []⟩) (by kernel_rfl) (by kernel_rfl) (allP_cons.2 ⟨g19, (allP_cons.2 ⟨g20, allP_nil⟩)⟩) ?_
                  refine W_co [] [8] [] (s' := (lDerives_R false)) (by kernel_rfl) (W_ret ?_)
                  exact ⟨.inl rfl, by cases h; rfl⟩
              · replace h := bif_f h g19
                refine W_regD hT ftL_nil (by kernel_rfl) 15 [(1, false)] [(72, false), (74, false), (81, false)] [] [8] [] (s' := ⟨[(8, .c (.s (.b false)))], [], []⟩) (by kernel_rfl) (by kernel_rfl) (allP_cons.2 ⟨g19, allP_nil⟩) ?_
                refine W_co [] [8] [] (s' := (lDerives_R false)) (by kernel_rfl) (W_ret ?_)
                exact ⟨.inl rfl, by cases h; rfl⟩
    · refine W_seq ?_
      rcases Bool.eq_false_or_eq_true (decide ((6 : Int) < l2)) with g25 | g25
      · replace h := bif_t h g25
        refine W_reg hT ftL_nil [(2, true)] [] [0, 1, 2, 3, 9, 22] [0, 1] (s' := ⟨[(0, .c (.sl 0 0 r14.2)), (1, .c (.sl 1 0 r16.2)), (2, .c (.s (.k .i64 l2))), (3, .c (.s (.k .i64 l3))), (9, .c (.s (.b r12))), (22, .c (.s (.b (decide (l2 ≤ (10000 : Int))))))], [], [⟨(.ro false), 5, 1, l0.length, .b l0⟩, ⟨(.ro false), 5, 1, l1.length, .b l1⟩]⟩) (by kernel_rfl) (allP_cons.2 ⟨g25, allP_nil⟩) ?_
        refine W_cond (b := (decide (l2 ≤ (10000 : Int)))) (by kernel_rfl) (fun g27 => ?_) (fun g27 => ?_)
        · replace h := bif_t h g27
          obtain ⟨g26, h⟩ := gd_some h
          refine W_reg hT ftL_nil [] [.vw 0 false, .vw 1 false] [0, 1, 2, 3, 9] [2, 3] (s' := (lDerives_j1_E l0 l1 l3 r12 r14 r16 (Int.tmod l2 7))) (by kernel_rfl) (allP_cons.2 ⟨g26, allP_nil⟩) ?_
          exact lDerives_j1_M h
        · replace h := bif_f h g27
          refine W_co [.vw 0 false, .vw 1 false] [0, 1, 2, 3, 9] [2, 3] (s' := (lDerives_j1_E l0 l1 l3 r12 r14 r16 l2)) (by kernel_rfl) (W_skip ?_)
          exact lDerives_j1_M h
      · replace h := bif_f h g25
        refine W_reg hT ftL_nil [(2, false)] [] [0, 1, 2, 3, 9, 22] [0, 1] (s' := ⟨[(0, .c (.sl 0 0 r14.2)), (1, .c (.sl 1 0 r16.2)), (2, .c (.s (.k .i64 l2))), (3, .c (.s (.k .i64 l3))), (9, .c (.s (.b r12))), (22, .c (.s (.b false)))], [], [⟨(.ro false), 5, 1, l0.length, .b l0⟩, ⟨(.ro false), 5, 1, l1.length, .b l1⟩]⟩) (by kernel_rfl) (allP_cons.2 ⟨g25, allP_nil⟩) ?_
        refine W_cond (b := false) (by kernel_rfl) (fun hb => by cases hb) (fun _ => ?_)
        refine W_co [.vw 0 false, .vw 1 false] [0, 1, 2, 3, 9] [2, 3] (s' := (lDerives_j1_E l0 l1 l3 r12 r14 r16 l2)) (by kernel_rfl) (W_skip ?_)
        exact lDerives_j1_M h
  · rintro e s' ⟨he, rfl⟩
    refine ⟨he, fun a' w' hr => ?_⟩
    exact retS_ok tabO_mvderives hr (rs := [.tmp 8]) rfl (objs := []) (by kernel_rfl)
end Go.Proofs.YtamddohbpdbdmaaDoor
end
section
set_option linter.unusedVariables false
set_option linter.unusedSimpArgs false
namespace Go.Sx
open Go Go.RowKit Go.Ch Go.Proofs.YtamddohbpdbdmaaDoor
theorem mDerive_bad {n : Nat} (a0 a1 : List UInt8) (r len : Int) (h : len < 0 ∨ r < 1 ∨ 10000 < r ∨ 256 < len) : mDerive n a0 a1 r len = some ([], 0, some (if len < 0 ∨ r < 1 then 1 else 4)) := by
  unfold mDerive
  by_cases h1 : len < 0
  · rw [ite_t (by simpa using h1), if_pos (.inl h1)]
  · rw [ite_f (by simpa using h1)]
    by_cases h2 : r < 1
    · rw [ite_t (by simpa using h2), if_pos (.inr h2)]
    · have e : ¬ (len < 0 ∨ r < 1) := by omega
      rw [ite_f (by simpa using h2), mmay_is, Option.bind_some, if_neg h2, if_neg e]
      by_cases h3 : 10000 < r
      · rw [if_pos h3, ite_t (by rfl)]
      · rw [if_neg h3, ite_f (by rfl), ite_t (by simp; omega)]
theorem lDerives_j1_is (a0 a1 : List UInt8) (len : Int) (m0 m1 : Nat) (l0 : ((a0.drop 0).take m0).length ≤ 200) (l1 : ((a1.drop 0).take m1).length ≤ 200) (i : Int) : lDerives_j1 N64 a0 a1 len true (a0, m0) (a1, m1) i = some true := by
  unfold lDerives_j1
  dsimp only
  by_cases h1 : i < 1
  · rw [mDerive_bad _ _ _ _ (.inr (.inl h1)), Option.bind_some, if_pos (.inr h1), ite_t (by simpa using h1), cond_true, gd_pos (by simp)]
    rfl
  · by_cases h2 : len < 0
    · rw [mDerive_bad _ _ _ _ (.inl h2), Option.bind_some, if_pos (.inl h2), ite_f (by simpa using h1), ite_t (by simpa using h2), cond_true, gd_pos (by simp)]
      rfl
    · by_cases h3 : 10000 < i
      · rw [mDerive_bad _ _ _ _ (.inr (.inr (.inl h3))), Option.bind_some, if_neg (by omega), ite_f (by simpa using h1), ite_f (by simpa using h2), ite_t (by simpa using h3), cond_true, gd_pos (by simp)]
        rfl
      · by_cases h4 : 256 < len
        · rw [mDerive_bad _ _ _ _ (.inr (.inr (.inr h4))), Option.bind_some, if_neg (by omega), ite_f (by simpa using h1), ite_f (by simpa using h2), ite_f (by simpa using h3), ite_t (by simpa using h4), cond_true, gd_pos (by simp)]
          rfl
        · obtain ⟨r, rfl⟩ := Int.eq_ofNat_of_zero_le (show 0 ≤ i by omega)
          obtain ⟨k, rfl⟩ := Int.eq_ofNat_of_zero_le (show 0 ≤ len by omega)
          rw [mDerive_is (by decide) (by omega) (by omega) (by omega) (by omega) (by omega), Option.bind_some, ite_f (decide_eq_false (by omega)), ite_f (decide_eq_false (by omega)), ite_f (decide_eq_false (by omega)), ite_f (decide_eq_false (by omega)), cond_true, ite_t (by rfl), made_is, Option.bind_some]
          dsimp only
          rw [rDerive_is (by decide) (by omega) (by omega) (by omega) (by omega) (by omega), Option.bind_some]
          simp
theorem lDerives_is (a0 a1 : List UInt8) (a2 a3 : Int) : lDerives N64 a0 a1 a2 a3 = some true := by
  obtain ⟨m0, e0, l0, _⟩ := mcut_is N64 a0 200
  obtain ⟨m1, e1, l1, _⟩ := mcut_is N64 a1 200
  rw [show ((200 : Nat) : Int) = 200 from rfl] at e0 e1
  unfold lDerives
  rw [mup_is, Option.bind_some, e0, Option.bind_some, e1, Option.bind_some]
  have := lDerives_j1_is a0 a1 a3 m0 m1 l0 l1
  cases decide ((6 : Int) < a2) <;> cases decide (a2 ≤ (10000 : Int)) <;> simp only [cond_true, cond_false]
  · exact this _
  · exact this _
  · exact this _
  · rw [gd_pos (by decide)]; exact this _
end Go.Sx
namespace Go.Proofs.YtamddohbpdbdmaaDoor
open Go.RowKit Go.Ch Go.Sx
theorem macDerives_c (w : World) (B0 : Nat) (v0 : Value) (l0 : List UInt8) (hv0 : Sl w B0 v0 (l0.map bU)) (B1 : Nat) (v1 : Value) (l1 : List UInt8) (hv1 : Sl w B1 v1 (l1.map bU)) (n2 : Int) (hn2 : (Lit.int .i64 n2).wf = true) (n3 : Int) (hn3 : (Lit.int .i64 n3).wf = true) (hG : GK w) :
    Calls Tryd.prog 4 #[v0, v1, .int .i64 n2, .int .i64 n3] w (Ret fun v' w' => Ext w w' ∧ v' = .bool true) := by
  obtain ⟨p0, a0, b0⟩ := in_b hv0 5
  obtain ⟨p1, a1, b1⟩ := in_b hv1 5
  have r2 : -9223372036854775808 ≤ n2 ∧ n2 < 9223372036854775808 := by simp [Lit.wf, IntKind.min, IntKind.max, IntKind.signed, IntKind.bits] at hn2; omega
  have r3 : -9223372036854775808 ≤ n3 ∧ n3 < 9223372036854775808 := by simp [Lit.wf, IntKind.min, IntKind.max, IntKind.signed, IntKind.bits] at hn3; omega
  exact law_of (lDerives_ok N64 true) (args := [.c (.wh 0), .c (.wh 1), .c (.s (.k .i64 n2)), .c (.s (.k .i64 n3))]) (H := [⟨.ro false, 5, 1, l0.length, .b l0⟩, ⟨.ro false, 5, 1, l1.length, .b l1⟩]) (ρ := plL [p0, p1]) (vals := [v0, v1, .int .i64 n2, .int .i64 n3]) rfl (allP_cons.2 ⟨lDerives_is l0 l1 n2 n3, allP_nil⟩) hG (hpL (ps := [p0, p1]) (F2.cons b0 (F2.cons b1 F2.nil))) (F2.cons a0 (F2.cons a1 (F2.cons rfl (F2.cons rfl F2.nil))))
end Go.Proofs.YtamddohbpdbdmaaDoor
end
