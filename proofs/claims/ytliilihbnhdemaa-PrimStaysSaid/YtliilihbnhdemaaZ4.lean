import Derived.Test.YtliilihbnhdemaaZ3
import Derived.Test.YtliilihbnhdemaaProg
set_option linter.unusedVariables false
set_option linter.unusedSimpArgs false
section
namespace Go.Proofs.Ytliilihbnhdemaa
open Go.RowKit Go.Ch Go.Sx
def tabL_psa : List (TypeId × Ti) := [(3, ⟨.int .i64, 1, 8, true, some [.int .i64]⟩),
 (5, ⟨.int .u8, 1, 1, true, some [.int .u8]⟩),
 (22, ⟨.sl 5, 1, 24, false, some [.nils]⟩),
 (82, ⟨.sl 22, 1, 24, false, some [.nils]⟩),
 (92, ⟨.int .u64, 1, 8, true, some [.int .u64]⟩)]
def tab_psa : Tab := fun t => (tabL_psa).lookup t
theorem tabE_psa : (tabL_psa.map fun p => tiOf Try.prog p.1) = tabL_psa.map fun p => some p.2 := by kernel_rfl
theorem tabO_psa : TabOk Try.prog tab_psa := tab_of tabE_psa
def srIns_l2 (n : Nat) (l : List (List UInt8)) (js : List Nat) (a1 : Int) (a2 : Int) (i8_1 : Int) (k_l1 : (List Nat) → Int → Option (List Nat)) : Nat → List Nat → Int → Option (List Nat)
 | 0, _, _ => none
 | fu_l2 + 1, dg1000000_8, i9_5 =>
 bif (decide (a1 < i9_5)) then
 gd (0 ≤ i9_5) <|
 gd (i9_5 < ((js.length : Nat) : Int)) <|
 gd (okI .i64 (i9_5 - 1)) <|
 gd (0 ≤ (i9_5 - 1)) <|
 gd ((i9_5 - 1) < ((js.length : Nat) : Int)) <|
 bif (decide ((Lib.compareBytes (l.getD (dg1000000_8.getD i9_5.toNat 0) []) (l.getD (dg1000000_8.getD ((i9_5 - 1).toNat) 0) [])) < (0 : Int))) then
 gd (okI .i64 (i9_5 - 1)) <|
 gd (okI .i64 (i9_5 - 1)) <|
 gd (0 ≤ (i9_5 - 1)) <|
 gd ((i9_5 - 1) < ((js.length : Nat) : Int)) <|
 gd (0 ≤ i9_5) <|
 gd (i9_5 < ((js.length : Nat) : Int)) <|
 gd (0 ≤ i9_5) <|
 gd (i9_5 < ((js.length : Nat) : Int)) <|
 gd (0 ≤ (i9_5 - 1)) <|
 gd ((i9_5 - 1) < ((js.length : Nat) : Int)) <|
 gd (okI .i64 (i9_5 - 1)) <|
 (srIns_l2 n l js a1 a2 i8_1 k_l1 fu_l2) ((dg1000000_8.set i9_5.toNat (dg1000000_8.getD ((i9_5 - 1).toNat) 0)).set ((i9_5 - 1).toNat) (dg1000000_8.getD i9_5.toNat 0)) (i9_5 - 1)
 else
 gd (okI .i64 (i8_1 + 1)) <|
 k_l1 dg1000000_8 (i8_1 + 1)
 else
 gd (okI .i64 (i8_1 + 1)) <|
 k_l1 dg1000000_8 (i8_1 + 1)
def srIns_l1 (n : Nat) (l : List (List UInt8)) (js : List Nat) (a1 : Int) (a2 : Int) : Nat → List Nat → Int → Option (List Nat)
 | 0, _, _ => none
 | fu_l1 + 1, dg1000000_6, i8_1 =>
 bif (decide (i8_1 < a2)) then
 srIns_l2 n l js a1 a2 i8_1 (srIns_l1 n l js a1 a2 fu_l1) n dg1000000_6 i8_1
 else
 some dg1000000_6
def srIns (n : Nat) (l : List (List UInt8)) (js : List Nat) (a1 : Int) (a2 : Int) : Option (List Nat) :=
 gd (okI .i64 (a1 + 1)) <|
 srIns_l1 n l js a1 a2 n js (a1 + 1)
def srSwap_l1 (n : Nat) (l : List (List UInt8)) (js : List Nat) (a1 : Int) (a2 : Int) (a3 : Int) : Nat → List Nat → Int → Option (List Nat)
 | 0, _, _ => none
 | fu_l1 + 1, dg1000000_2, i10_1 =>
 bif (decide (i10_1 < a3)) then
 gd (okI .i64 (a1 + i10_1)) <|
 gd (okI .i64 (a2 + i10_1)) <|
 gd (okI .i64 (a2 + i10_1)) <|
 gd (0 ≤ (a2 + i10_1)) <|
 gd ((a2 + i10_1) < ((js.length : Nat) : Int)) <|
 gd (okI .i64 (a1 + i10_1)) <|
 gd (0 ≤ (a1 + i10_1)) <|
 gd ((a1 + i10_1) < ((js.length : Nat) : Int)) <|
 gd (0 ≤ (a1 + i10_1)) <|
 gd ((a1 + i10_1) < ((js.length : Nat) : Int)) <|
 gd (0 ≤ (a2 + i10_1)) <|
 gd ((a2 + i10_1) < ((js.length : Nat) : Int)) <|
 gd (okI .i64 (i10_1 + 1)) <|
 (srSwap_l1 n l js a1 a2 a3 fu_l1) ((dg1000000_2.set ((a1 + i10_1).toNat) (dg1000000_2.getD ((a2 + i10_1).toNat) 0)).set ((a2 + i10_1).toNat) (dg1000000_2.getD ((a1 + i10_1).toNat) 0)) (i10_1 + 1)
 else
 some dg1000000_2
def srSwap (n : Nat) (l : List (List UInt8)) (js : List Nat) (a1 : Int) (a2 : Int) (a3 : Int) : Option (List Nat) :=
 srSwap_l1 n l js a1 a2 a3 n js 0
def srRot_j1 (n : Nat) (l : List (List UInt8)) (js : List Nat) (a2 : Int) (dg1000000_5 : List Nat) (i10_4 : Int) : Option (List Nat) :=
 gd (okI .i64 (a2 - i10_4)) <|
 (srSwap n l dg1000000_5 (a2 - i10_4) a2 i10_4).bind fun r57_1 =>
 some r57_1
def srRot_l1 (n : Nat) (l : List (List UInt8)) (js : List Nat) (a2 : Int) : Nat → List Nat → Int → Int → Option (List Nat)
 | 0, _, _, _ => none
 | fu_l1 + 1, dg1000000_6, i10_5, i11_3 =>
  bif (i10_5 != i11_3) then
   bif (decide (i11_3 < i10_5)) then
    gd (okI .i64 (a2 - i10_5)) <|
    (srSwap n l dg1000000_6 (a2 - i10_5) a2 i11_3).bind fun r31_4 =>
    gd (okI .i64 (i10_5 - i11_3)) <|
    (srRot_l1 n l js a2 fu_l1) r31_4 (i10_5 - i11_3) i11_3
   else
    gd (okI .i64 (a2 - i10_5)) <|
    gd (okI .i64 (a2 + i11_3)) <|
    gd (okI .i64 ((a2 + i11_3) - i10_5)) <|
    (srSwap n l dg1000000_6 (a2 - i10_5) ((a2 + i11_3) - i10_5) i10_5).bind fun r46_4 =>
    gd (okI .i64 (i11_3 - i10_5)) <|
    (srRot_l1 n l js a2 fu_l1) r46_4 i10_5 (i11_3 - i10_5)
  else
   srRot_j1 n l js a2 dg1000000_6 i10_5
def srRot (n : Nat) (l : List (List UInt8)) (js : List Nat) (a1 : Int) (a2 : Int) (a3 : Int) : Option (List Nat) :=
 gd (okI .i64 (a2 - a1)) <|
 gd (okI .i64 (a3 - a2)) <|
 srRot_l1 n l js a2 n js (a2 - a1) (a3 - a2)
def srMerge_l1 (n : Nat) (rc : (List (List UInt8)) → (List Nat) → Int → Int → Int → Option (List Nat)) (l : List (List UInt8)) (js : List Nat) (i10_4 : Int) : Nat → List Nat → Int → Option (List Nat)
 | 0, _, _ => none
 | fu_l1 + 1, dg1000000_5, i13_1 =>
 gd (okI .i64 (i10_4 - 1)) <|
 bif (decide (i13_1 < (i10_4 - 1))) then
 gd (okI .i64 (i13_1 + 1)) <|
 gd (okI .i64 (i13_1 + 1)) <|
 gd (0 ≤ (i13_1 + 1)) <|
 gd ((i13_1 + 1) < ((js.length : Nat) : Int)) <|
 gd (0 ≤ i13_1) <|
 gd (i13_1 < ((js.length : Nat) : Int)) <|
 gd (0 ≤ i13_1) <|
 gd (i13_1 < ((js.length : Nat) : Int)) <|
 gd (0 ≤ (i13_1 + 1)) <|
 gd ((i13_1 + 1) < ((js.length : Nat) : Int)) <|
 gd (okI .i64 (i13_1 + 1)) <|
 (srMerge_l1 n rc l js i10_4 fu_l1) ((dg1000000_5.set i13_1.toNat (dg1000000_5.getD ((i13_1 + 1).toNat) 0)).set ((i13_1 + 1).toNat) (dg1000000_5.getD i13_1.toNat 0)) (i13_1 + 1)
 else
 some dg1000000_5
def srMerge_j1 (n : Nat) (rc : (List (List UInt8)) → (List Nat) → Int → Int → Int → Option (List Nat)) (l : List (List UInt8)) (js : List Nat) (a1 : Int) (i10_4 : Int) : Option (List Nat) :=
 srMerge_l1 n rc l js i10_4 n js a1
def srMerge_l2 (n : Nat) (rc : (List (List UInt8)) → (List Nat) → Int → Int → Int → Option (List Nat)) (l : List (List UInt8)) (js : List Nat) (a1 : Int) : Nat → Int → Int → Option (List Nat)
 | 0, _, _ => none
 | fu_l2 + 1, i10_5, i11_3 =>
 bif (decide (i10_5 < i11_3)) then
 gd (okI .i64 (i10_5 + i11_3)) <|
 gd (0 ≤ (1 : Int)) <|
 gd (0 ≤ (IntKind.i64.wrap (((shr64 (UInt64.ofInt (i10_5 + i11_3)) 1).toNat : Nat) : Int))) <|
 gd ((IntKind.i64.wrap (((shr64 (UInt64.ofInt (i10_5 + i11_3)) 1).toNat : Nat) : Int)) < ((js.length : Nat) : Int)) <|
 gd (0 ≤ a1) <|
 gd (a1 < ((js.length : Nat) : Int)) <|
 bif (decide ((Lib.compareBytes (l.getD (js.getD ((IntKind.i64.wrap (((shr64 (UInt64.ofInt (i10_5 + i11_3)) 1).toNat : Nat) : Int)).toNat) 0) []) (l.getD (js.getD a1.toNat 0) [])) < (0 : Int))) then
 gd (okI .i64 ((IntKind.i64.wrap (((shr64 (UInt64.ofInt (i10_5 + i11_3)) 1).toNat : Nat) : Int)) + 1)) <|
 (srMerge_l2 n rc l js a1 fu_l2) ((IntKind.i64.wrap (((shr64 (UInt64.ofInt (i10_5 + i11_3)) 1).toNat : Nat) : Int)) + 1) i11_3
 else
 (srMerge_l2 n rc l js a1 fu_l2) i10_5 (IntKind.i64.wrap (((shr64 (UInt64.ofInt (i10_5 + i11_3)) 1).toNat : Nat) : Int))
 else
 srMerge_j1 n rc l js a1 i10_5
def srMerge_l3 (n : Nat) (rc : (List (List UInt8)) → (List Nat) → Int → Int → Int → Option (List Nat)) (l : List (List UInt8)) (js : List Nat) (i14_4 : Int) : Nat → List Nat → Int → Option (List Nat)
 | 0, _, _ => none
 | fu_l3 + 1, dg1000000_6, i17_1 =>
 bif (decide (i14_4 < i17_1)) then
 gd (okI .i64 (i17_1 - 1)) <|
 gd (okI .i64 (i17_1 - 1)) <|
 gd (0 ≤ (i17_1 - 1)) <|
 gd ((i17_1 - 1) < ((js.length : Nat) : Int)) <|
 gd (0 ≤ i17_1) <|
 gd (i17_1 < ((js.length : Nat) : Int)) <|
 gd (0 ≤ i17_1) <|
 gd (i17_1 < ((js.length : Nat) : Int)) <|
 gd (0 ≤ (i17_1 - 1)) <|
 gd ((i17_1 - 1) < ((js.length : Nat) : Int)) <|
 gd (okI .i64 (i17_1 - 1)) <|
 (srMerge_l3 n rc l js i14_4 fu_l3) ((dg1000000_6.set i17_1.toNat (dg1000000_6.getD ((i17_1 - 1).toNat) 0)).set ((i17_1 - 1).toNat) (dg1000000_6.getD i17_1.toNat 0)) (i17_1 - 1)
 else
 some dg1000000_6
def srMerge_j2 (n : Nat) (rc : (List (List UInt8)) → (List Nat) → Int → Int → Int → Option (List Nat)) (l : List (List UInt8)) (js : List Nat) (a2 : Int) (i14_4 : Int) : Option (List Nat) :=
 srMerge_l3 n rc l js i14_4 n js a2
def srMerge_l4 (n : Nat) (rc : (List (List UInt8)) → (List Nat) → Int → Int → Int → Option (List Nat)) (l : List (List UInt8)) (js : List Nat) (a2 : Int) : Nat → Int → Int → Option (List Nat)
 | 0, _, _ => none
 | fu_l4 + 1, i14_5, i15_3 =>
 bif (decide (i14_5 < i15_3)) then
 gd (okI .i64 (i14_5 + i15_3)) <|
 gd (0 ≤ (1 : Int)) <|
 gd (0 ≤ a2) <|
 gd (a2 < ((js.length : Nat) : Int)) <|
 gd (0 ≤ (IntKind.i64.wrap (((shr64 (UInt64.ofInt (i14_5 + i15_3)) 1).toNat : Nat) : Int))) <|
 gd ((IntKind.i64.wrap (((shr64 (UInt64.ofInt (i14_5 + i15_3)) 1).toNat : Nat) : Int)) < ((js.length : Nat) : Int)) <|
 bif (!(decide ((Lib.compareBytes (l.getD (js.getD a2.toNat 0) []) (l.getD (js.getD ((IntKind.i64.wrap (((shr64 (UInt64.ofInt (i14_5 + i15_3)) 1).toNat : Nat) : Int)).toNat) 0) [])) < (0 : Int)))) then
 gd (okI .i64 ((IntKind.i64.wrap (((shr64 (UInt64.ofInt (i14_5 + i15_3)) 1).toNat : Nat) : Int)) + 1)) <|
 (srMerge_l4 n rc l js a2 fu_l4) ((IntKind.i64.wrap (((shr64 (UInt64.ofInt (i14_5 + i15_3)) 1).toNat : Nat) : Int)) + 1) i15_3
 else
 (srMerge_l4 n rc l js a2 fu_l4) i14_5 (IntKind.i64.wrap (((shr64 (UInt64.ofInt (i14_5 + i15_3)) 1).toNat : Nat) : Int))
 else
 srMerge_j2 n rc l js a2 i14_5
def srMerge_j6 (n : Nat) (rc : (List (List UInt8)) → (List Nat) → Int → Int → Int → Option (List Nat)) (l : List (List UInt8)) (js : List Nat) (a1 : Int) (a2 : Int) (a3 : Int) (i20_6 : Int) (dg1000000_8 : List Nat) : Option (List Nat) :=
 bif (decide ((IntKind.i64.wrap (((shr64 (UInt64.ofInt (a1 + a3)) 1).toNat : Nat) : Int)) < (((IntKind.i64.wrap (((shr64 (UInt64.ofInt (a1 + a3)) 1).toNat : Nat) : Int)) + a2) - i20_6))) then
  bif (decide ((((IntKind.i64.wrap (((shr64 (UInt64.ofInt (a1 + a3)) 1).toNat : Nat) : Int)) + a2) - i20_6) < a3)) then
   (rc l dg1000000_8 (IntKind.i64.wrap (((shr64 (UInt64.ofInt (a1 + a3)) 1).toNat : Nat) : Int)) (((IntKind.i64.wrap (((shr64 (UInt64.ofInt (a1 + a3)) 1).toNat : Nat) : Int)) + a2) - i20_6) a3).bind fun r219_1 =>
   some r219_1
  else
   some dg1000000_8
 else
  some dg1000000_8
def srMerge_j5 (n : Nat) (rc : (List (List UInt8)) → (List Nat) → Int → Int → Int → Option (List Nat)) (l : List (List UInt8)) (js : List Nat) (a1 : Int) (a2 : Int) (a3 : Int) (i20_6 : Int) (dg1000000_7 : List Nat) : Option (List Nat) :=
 bif (decide (a1 < i20_6)) then
  bif (decide (i20_6 < (IntKind.i64.wrap (((shr64 (UInt64.ofInt (a1 + a3)) 1).toNat : Nat) : Int)))) then
   (rc l dg1000000_7 a1 i20_6 (IntKind.i64.wrap (((shr64 (UInt64.ofInt (a1 + a3)) 1).toNat : Nat) : Int))).bind fun r205_1 =>
   srMerge_j6 n rc l js a1 a2 a3 i20_6 r205_1
  else
   srMerge_j6 n rc l js a1 a2 a3 i20_6 dg1000000_7
 else
  srMerge_j6 n rc l js a1 a2 a3 i20_6 dg1000000_7
def srMerge_j4 (n : Nat) (rc : (List (List UInt8)) → (List Nat) → Int → Int → Int → Option (List Nat)) (l : List (List UInt8)) (js : List Nat) (a1 : Int) (a2 : Int) (a3 : Int) (i20_6 : Int) : Option (List Nat) :=
 gd (okI .i64 (((IntKind.i64.wrap (((shr64 (UInt64.ofInt (a1 + a3)) 1).toNat : Nat) : Int)) + a2) - i20_6)) <|
 bif (decide (i20_6 < a2)) then
  bif (decide (a2 < (((IntKind.i64.wrap (((shr64 (UInt64.ofInt (a1 + a3)) 1).toNat : Nat) : Int)) + a2) - i20_6))) then
   (srRot n l js i20_6 a2 (((IntKind.i64.wrap (((shr64 (UInt64.ofInt (a1 + a3)) 1).toNat : Nat) : Int)) + a2) - i20_6)).bind fun r191_1 =>
   srMerge_j5 n rc l js a1 a2 a3 i20_6 r191_1
  else
   srMerge_j5 n rc l js a1 a2 a3 i20_6 js
 else
  srMerge_j5 n rc l js a1 a2 a3 i20_6 js
def srMerge_l5 (n : Nat) (rc : (List (List UInt8)) → (List Nat) → Int → Int → Int → Option (List Nat)) (l : List (List UInt8)) (js : List Nat) (a1 : Int) (a2 : Int) (a3 : Int) : Nat → Int → Int → Option (List Nat)
 | 0, _, _ => none
 | fu_l5 + 1, i20_7, i21_5 =>
 bif (decide (i20_7 < i21_5)) then
 gd (okI .i64 (i20_7 + i21_5)) <|
 gd (0 ≤ (1 : Int)) <|
 gd (okI .i64 ((((IntKind.i64.wrap (((shr64 (UInt64.ofInt (a1 + a3)) 1).toNat : Nat) : Int)) + a2) - 1) - (IntKind.i64.wrap (((shr64 (UInt64.ofInt (i20_7 + i21_5)) 1).toNat : Nat) : Int)))) <|
 gd (0 ≤ ((((IntKind.i64.wrap (((shr64 (UInt64.ofInt (a1 + a3)) 1).toNat : Nat) : Int)) + a2) - 1) - (IntKind.i64.wrap (((shr64 (UInt64.ofInt (i20_7 + i21_5)) 1).toNat : Nat) : Int)))) <|
 gd (((((IntKind.i64.wrap (((shr64 (UInt64.ofInt (a1 + a3)) 1).toNat : Nat) : Int)) + a2) - 1) - (IntKind.i64.wrap (((shr64 (UInt64.ofInt (i20_7 + i21_5)) 1).toNat : Nat) : Int))) < ((js.length : Nat) : Int)) <|
 gd (0 ≤ (IntKind.i64.wrap (((shr64 (UInt64.ofInt (i20_7 + i21_5)) 1).toNat : Nat) : Int))) <|
 gd ((IntKind.i64.wrap (((shr64 (UInt64.ofInt (i20_7 + i21_5)) 1).toNat : Nat) : Int)) < ((js.length : Nat) : Int)) <|
 bif (!(decide ((Lib.compareBytes (l.getD (js.getD (((((IntKind.i64.wrap (((shr64 (UInt64.ofInt (a1 + a3)) 1).toNat : Nat) : Int)) + a2) - 1) - (IntKind.i64.wrap (((shr64 (UInt64.ofInt (i20_7 + i21_5)) 1).toNat : Nat) : Int))).toNat) 0) []) (l.getD (js.getD ((IntKind.i64.wrap (((shr64 (UInt64.ofInt (i20_7 + i21_5)) 1).toNat : Nat) : Int)).toNat) 0) [])) < (0 : Int)))) then
 gd (okI .i64 ((IntKind.i64.wrap (((shr64 (UInt64.ofInt (i20_7 + i21_5)) 1).toNat : Nat) : Int)) + 1)) <|
 (srMerge_l5 n rc l js a1 a2 a3 fu_l5) ((IntKind.i64.wrap (((shr64 (UInt64.ofInt (i20_7 + i21_5)) 1).toNat : Nat) : Int)) + 1) i21_5
 else
 (srMerge_l5 n rc l js a1 a2 a3 fu_l5) i20_7 (IntKind.i64.wrap (((shr64 (UInt64.ofInt (i20_7 + i21_5)) 1).toNat : Nat) : Int))
 else
 srMerge_j4 n rc l js a1 a2 a3 i20_7
def srMerge_j3 (n : Nat) (rc : (List (List UInt8)) → (List Nat) → Int → Int → Int → Option (List Nat)) (l : List (List UInt8)) (js : List Nat) (a1 : Int) (a2 : Int) (a3 : Int) (i20_4 : Int) (i21_3 : Int) : Option (List Nat) :=
 gd (okI .i64 (((IntKind.i64.wrap (((shr64 (UInt64.ofInt (a1 + a3)) 1).toNat : Nat) : Int)) + a2) - 1)) <|
 srMerge_l5 n rc l js a1 a2 a3 n i20_4 i21_3
def srMerge : Nat → (List (List UInt8)) → (List Nat) → Int → Int → Int → Option (List Nat)
 | 0, _, _, _, _, _ => none
 | n + 1, l, js, a1, a2, a3 =>
 gd (okI .i64 (a2 - a1)) <|
 bif ((a2 - a1) == 1) then
 srMerge_l2 n (srMerge n) l js a1 n a2 a3
 else
 gd (okI .i64 (a3 - a2)) <|
 bif ((a3 - a2) == 1) then
 srMerge_l4 n (srMerge n) l js a2 n a1 a2
 else
 gd (okI .i64 (a1 + a3)) <|
 gd (0 ≤ (1 : Int)) <|
 gd (okI .i64 ((IntKind.i64.wrap (((shr64 (UInt64.ofInt (a1 + a3)) 1).toNat : Nat) : Int)) + a2)) <|
 bif (decide ((IntKind.i64.wrap (((shr64 (UInt64.ofInt (a1 + a3)) 1).toNat : Nat) : Int)) < a2)) then
 gd (okI .i64 (((IntKind.i64.wrap (((shr64 (UInt64.ofInt (a1 + a3)) 1).toNat : Nat) : Int)) + a2) - a3)) <|
 srMerge_j3 n (srMerge n) l js a1 a2 a3 (((IntKind.i64.wrap (((shr64 (UInt64.ofInt (a1 + a3)) 1).toNat : Nat) : Int)) + a2) - a3) (IntKind.i64.wrap (((shr64 (UInt64.ofInt (a1 + a3)) 1).toNat : Nat) : Int))
 else
 srMerge_j3 n (srMerge n) l js a1 a2 a3 a1 a2
def srStable_j3 (n : Nat) (l : List (List UInt8)) (js : List Nat) (a1 : Int) (i6_1 : Int) (k_l1 : (List Nat) → Int → Option (List Nat)) (dg1000000_30 : List Nat) : Option (List Nat) :=
 gd (okI .i64 (i6_1 * 2)) <|
 k_l1 dg1000000_30 (i6_1 * 2)
def srStable_j2 (n : Nat) (l : List (List UInt8)) (js : List Nat) (a1 : Int) (i6_1 : Int) (k_l1 : (List Nat) → Int → Option (List Nat)) (dg1000000_29 : List Nat) (i7_21 : Int) : Option (List Nat) :=
 gd (okI .i64 (i7_21 + i6_1)) <|
 bif (decide ((i7_21 + i6_1) < a1)) then
  (srMerge n l dg1000000_29 i7_21 (i7_21 + i6_1) a1).bind fun r60_5 =>
  srStable_j3 n l js a1 i6_1 k_l1 r60_5
 else
  srStable_j3 n l js a1 i6_1 k_l1 dg1000000_29
def srStable_l2 (n : Nat) (l : List (List UInt8)) (js : List Nat) (a1 : Int) (i6_1 : Int) (k_l1 : (List Nat) → Int → Option (List Nat)) : Nat → List Nat → Int → Int → Option (List Nat)
 | 0, _, _, _ => none
 | fu_l2 + 1, dg1000000_31, i7_22, i8_14 =>
  bif (decide (i8_14 ≤ a1)) then
   gd (okI .i64 (i7_22 + i6_1)) <|
   (srMerge n l dg1000000_31 i7_22 (i7_22 + i6_1) i8_14).bind fun r43_15 =>
   gd (okI .i64 (2 * i6_1)) <|
   gd (okI .i64 (i8_14 + (2 * i6_1))) <|
   (srStable_l2 n l js a1 i6_1 k_l1 fu_l2) r43_15 i8_14 (i8_14 + (2 * i6_1))
  else
   srStable_j2 n l js a1 i6_1 k_l1 dg1000000_31 i7_22
def srStable_l1 (n : Nat) (l : List (List UInt8)) (js : List Nat) (a1 : Int) : Nat → List Nat → Int → Option (List Nat)
 | 0, _, _ => none
 | fu_l1 + 1, dg1000000_23, i6_1 =>
 bif (decide (i6_1 < a1)) then
 gd (okI .i64 (2 * i6_1)) <|
 srStable_l2 n l js a1 i6_1 (srStable_l1 n l js a1 fu_l1) n dg1000000_23 0 (2 * i6_1)
 else
 some dg1000000_23
def srStable_j1 (n : Nat) (l : List (List UInt8)) (js : List Nat) (a1 : Int) (dg1000000_18 : List Nat) (i7_13 : Int) : Option (List Nat) :=
 (srIns n l dg1000000_18 i7_13 a1).bind fun r27_1 =>
 srStable_l1 n l js a1 n r27_1 20
def srStable_l3 (n : Nat) (l : List (List UInt8)) (js : List Nat) (a1 : Int) : Nat → List Nat → Int → Int → Option (List Nat)
 | 0, _, _, _ => none
 | fu_l3 + 1, dg1000000_32, i7_23, i8_15 =>
  bif (decide (i8_15 ≤ a1)) then
   (srIns n l dg1000000_32 i7_23 i8_15).bind fun r18_4 =>
   gd (okI .i64 (i8_15 + 20)) <|
   (srStable_l3 n l js a1 fu_l3) r18_4 i8_15 (i8_15 + 20)
  else
   srStable_j1 n l js a1 dg1000000_32 i7_23
def srStable (n : Nat) (l : List (List UInt8)) (js : List Nat) (a1 : Int) : Option (List Nat) :=
 srStable_l3 n l js a1 n js 0 20
def srSort (n : Nat) (l : List (List UInt8)) (js : List Nat) : Option (List Nat) :=
 (srStable n l js ((js.length : Nat) : Int)).bind fun r8 =>
 some r8
def srIns_l2_E (l : List (List UInt8)) (js : List Nat) (a1 : Int) (a2 : Int) (i8_1 : Int) (dg1000000_8 : List Nat) (i9_5 : Int) : S := ⟨[(0, kH 0), (1, kI a1), (2, kI a2), (3, .c (.s (.v (.func (.func 75) #[] #[])))), (8, kI i8_1), (9, kI i9_5)], [(1000000, kH 0), (1000001, kH 1)], [⟨.row, 22, 1, js.length, .p 1 dg1000000_8⟩, ⟨(.dp false), 22, 1, l.length, .d (.by 5) l⟩]⟩
abbrev srIns_l2_P (n : Nat) (l : List (List UInt8)) (js : List Nat) (a1 : Int) (a2 : Int) (i8_1 : Int) (k_l1 : (List Nat) → Int → Option (List Nat)) (r : List Nat) (fu : Nat) : S → Prop := fun s => ∃ (dg1000000_8 : List Nat), ∃ (i9_5 : Int), s = srIns_l2_E l js a1 a2 i8_1 dg1000000_8 i9_5 ∧ srIns_l2 n l js a1 a2 i8_1 k_l1 fu dg1000000_8 i9_5 = some r
def srIns_l1_E (l : List (List UInt8)) (js : List Nat) (a1 : Int) (a2 : Int) (dg1000000_6 : List Nat) (i8_1 : Int) : S := ⟨[(0, kH 0), (1, kI a1), (2, kI a2), (3, .c (.s (.v (.func (.func 75) #[] #[])))), (8, kI i8_1)], [(1000000, kH 0), (1000001, kH 1)], [⟨.row, 22, 1, js.length, .p 1 dg1000000_6⟩, ⟨(.dp false), 22, 1, l.length, .d (.by 5) l⟩]⟩
abbrev srIns_l1_P (n : Nat) (l : List (List UInt8)) (js : List Nat) (a1 : Int) (a2 : Int) (r : List Nat) (fu : Nat) : S → Prop := fun s => ∃ (dg1000000_6 : List Nat), ∃ (i8_1 : Int), s = srIns_l1_E l js a1 a2 dg1000000_6 i8_1 ∧ srIns_l1 n l js a1 a2 fu dg1000000_6 i8_1 = some r
def srIns_R (l : List (List UInt8)) (js : List Nat) (r : List Nat) : S := ⟨[], [(1000000, kH 0), (1000001, kH 1)], [⟨.row, 22, 1, js.length, .p 1 r⟩, ⟨(.dp false), 22, 1, l.length, .d (.by 5) l⟩]⟩
def srIns_ct (n : Nat) (r : List Nat) : CtM := rwC 75 22 (fun l js ns => match ns with | [a1, a2] => srIns n l js a1 a2 = some r | _ => False) r
theorem srIns_ok (n : Nat) (r : List Nat) : FnMOk Try.prog 88 (srIns_ct n r) := by
 refine fnokR (e' := 5) 53 (fun l js => srIns_R l js r) Try.func88 (fun w bs l js ns h => ?_) (fun l js ns h => ?_) (fun l js => ⟨_, rfl⟩)
 ·cases ns with
  | nil => exact (show False from h).elim
  | cons a1 ns =>
   cases ns with
   | nil => exact (show False from h).elim
   | cons a2 ns =>
    cases ns with
    | cons z ns => exact (show False from h).elim
    | nil =>
     have h : srIns n l js a1 a2 = some r := h
     unfold srIns at h
     have hT := tabO_psa
     obtain ⟨g1, h⟩ := gd_some h
     refine Vgs hT fN [] [] [0, 1] ⟨[(0, kH 0), (1, kI a1), (2, kI a2), (3, .c (.s (.v (.func (.func 75) #[] #[])))), (8, kI (a1 + 1))], [(1000000, kH 0), (1000001, kH 1)], [⟨.row, 22, 1, js.length, .p 1 js⟩, ⟨(.dp false), 22, 1, l.length, .d (.by 5) l⟩]⟩ (aP g1 aN) ?_
     refine W_block ?_
     refine Vc [] [0, 1] (srIns_l1_E l js a1 a2 js (a1 + 1)) (W_lp ((srIns_l1_P n l js a1 a2 r)) n ⟨_, _, rfl, h⟩ ?_)
     rintro fu_l1 _ ⟨dg1000000_6, i8_1, rfl, h⟩
     cases fu_l1 with
     | zero => cases h
     | succ fu_l1 =>
      refine ⟨fu_l1, rfl, ?_⟩
      rw [srIns_l1] at h
      refine W_seq ?_
      refine Vrs hT [0, 1] ⟨[(0, kH 0), (1, kI a1), (2, kI a2), (3, .c (.s (.v (.func (.func 75) #[] #[])))), (8, kI i8_1), (14, kB (decide (i8_1 < a2)))], [(1000000, kH 0), (1000001, kH 1)], [⟨.row, 22, 1, js.length, .p 1 dg1000000_6⟩, ⟨(.dp false), 22, 1, l.length, .d (.by 5) l⟩]⟩ ?_
      refine Vi ((decide (i8_1 < a2))) (fun g22 => ?_) (fun g22 => ?_)
      ·replace h := bif_t h g22
       refine W_skip ?_
       refine W_seq ?_
       refine W_block ?_
       refine Vrs hT [0, 1] ⟨[(0, kH 0), (1, kI a1), (2, kI a2), (3, .c (.s (.v (.func (.func 75) #[] #[])))), (8, kI i8_1), (9, kI i8_1)], [(1000000, kH 0), (1000001, kH 1)], [⟨.row, 22, 1, js.length, .p 1 dg1000000_6⟩, ⟨(.dp false), 22, 1, l.length, .d (.by 5) l⟩]⟩ ?_
       refine W_block ?_
       refine Vc [] [0, 1] (srIns_l2_E l js a1 a2 i8_1 dg1000000_6 i8_1) (W_lp ((srIns_l2_P n l js a1 a2 i8_1 (srIns_l1 n l js a1 a2 fu_l1) r)) n ⟨_, _, rfl, h⟩ ?_)
       rintro fu_l2 _ ⟨dg1000000_8, i9_5, rfl, h⟩
       cases fu_l2 with
       | zero => cases h
       | succ fu_l2 =>
        refine ⟨fu_l2, rfl, ?_⟩
        rw [srIns_l2] at h
        refine W_seq ?_
        refine W_seq ?_
        rcases Bool.eq_false_or_eq_true (decide (a1 < i9_5)) with g2 | g2
        ·replace h := bif_t h g2
         obtain ⟨g3, g4, g5, g6, g7, h⟩ := gd5 h
         refine W_regG hT (fT 14 cmp_h fN) (by kernel_rfl) [(3, true)] [0, 1, 2, 3, 4, 5, 6, 7, 8, 9, 10, 11, 12, 13, 15, 16] [[0, 1, 2, 3, 4, 5, 6, 7, 8, 9, 10, 11, 12, 13], [0, 1, 2, 3, 4, 5, 6, 7, 8, 9, 10, 11, 12, 13, 14, 15, 16]] [⟨[(0, kH 0), (1, kI a1), (2, kI a2), (3, .c (.s (.v (.func (.func 75) #[] #[])))), (8, kI i8_1), (9, kI i9_5), (18, kI i9_5), (19, kI a1), (20, kB (decide (a1 < i9_5))), (21, kB true), (22, .c (.s (.v (.func (.func 75) #[] #[])))), (23, kH 0), (24, kI i9_5), (25, kP 0 i9_5.toNat), (26, .c (.gi 1 (dg1000000_8.getD i9_5.toNat 0))), (27, kH 0), (28, kI i9_5), (29, kI (i9_5 - 1)), (30, kP 0 ((i9_5 - 1).toNat)), (31, .c (.gi 1 (dg1000000_8.getD ((i9_5 - 1).toNat) 0)))], [(1000000, kH 0), (1000001, kH 1)], [⟨.row, 22, 1, js.length, .p 1 dg1000000_8⟩, ⟨(.dp false), 22, 1, l.length, .d (.by 5) l⟩]⟩, ⟨[(0, kH 0), (1, kI a1), (2, kI a2), (3, .c (.s (.v (.func (.func 75) #[] #[])))), (8, kI i8_1), (9, kI i9_5), (21, kB true), (32, kI (Lib.compareBytes (l.getD (dg1000000_8.getD i9_5.toNat 0) []) (l.getD (dg1000000_8.getD ((i9_5 - 1).toNat) 0) []))), (33, kB (decide ((Lib.compareBytes (l.getD (dg1000000_8.getD i9_5.toNat 0) []) (l.getD (dg1000000_8.getD ((i9_5 - 1).toNat) 0) [])) < (0 : Int)))), (34, kB (decide ((Lib.compareBytes (l.getD (dg1000000_8.getD i9_5.toNat 0) []) (l.getD (dg1000000_8.getD ((i9_5 - 1).toNat) 0) [])) < (0 : Int))))], [(1000000, kH 0), (1000001, kH 1)], [⟨.row, 22, 1, js.length, .p 1 dg1000000_8⟩, ⟨(.dp false), 22, 1, l.length, .d (.by 5) l⟩]⟩] [0, 1, 2, 3, 4, 5, 6, 7, 8, 9, 10, 11, 12, 13] [⟨0, 14, 1, [15, 16], [], [0, 1, 2, 3, 8, 9, 21, 32, 33, 34], [0, 1]⟩] [(0, 0), (0, 1), (0, 2), (0, 3), (0, 4), (0, 5), (0, 6), (0, 7), (0, 8), (0, 9), (0, 10), (0, 11), (0, 12), (0, 13), (1, 15), (1, 16)] 1 [0, 1, 2, 3, 8, 9, 18, 19, 20, 21, 22, 23, 24, 25, 26, 27, 28, 29, 30, 31] [0, 1] [] [0, 1, 2, 3, 8, 9, 34] [0, 1] (s' := ⟨[(0, kH 0), (1, kI a1), (2, kI a2), (3, .c (.s (.v (.func (.func 75) #[] #[])))), (8, kI i8_1), (9, kI i9_5), (34, kB (decide ((Lib.compareBytes (l.getD (dg1000000_8.getD i9_5.toNat 0) []) (l.getD (dg1000000_8.getD ((i9_5 - 1).toNat) 0) [])) < (0 : Int))))], [(1000000, kH 0), (1000001, kH 1)], [⟨.row, 22, 1, js.length, .p 1 dg1000000_8⟩, ⟨(.dp false), 22, 1, l.length, .d (.by 5) l⟩]⟩) (by kernel_rfl) ⟨_, (by kernel_rfl), (allP_cons.2 ⟨g2, (allP_cons.2 ⟨g3, (allP_cons.2 ⟨g4, (allP_cons.2 ⟨g5, (allP_cons.2 ⟨g6, (allP_cons.2 ⟨g7, allP_nil⟩)⟩)⟩)⟩)⟩)⟩)⟩ (AllE.cons ⟨_, (by kernel_rfl), allP_nil⟩ AllE.nil) (AllR.cons ⟨_, (by kernel_rfl), allP_nil⟩ (AllR.cons ⟨_, (by kernel_rfl), allP_nil⟩ (AllR.cons ⟨_, (by kernel_rfl), allP_nil⟩ (AllR.cons ⟨_, (by kernel_rfl), (allP_cons.2 ⟨g2, allP_nil⟩)⟩ (AllR.cons ⟨_, (by kernel_rfl), allP_nil⟩ (AllR.cons ⟨_, (by kernel_rfl), allP_nil⟩ (AllR.cons ⟨_, (by kernel_rfl), allP_nil⟩ (AllR.cons ⟨_, (by kernel_rfl), (allP_cons.2 ⟨g3, (allP_cons.2 ⟨g4, allP_nil⟩)⟩)⟩ (AllR.cons ⟨_, (by kernel_rfl), allP_nil⟩ (AllR.cons ⟨_, (by kernel_rfl), allP_nil⟩ (AllR.cons ⟨_, (by kernel_rfl), allP_nil⟩ (AllR.cons ⟨_, (by kernel_rfl), (allP_cons.2 ⟨g5, allP_nil⟩)⟩ (AllR.cons ⟨_, (by kernel_rfl), (allP_cons.2 ⟨g6, (allP_cons.2 ⟨g7, allP_nil⟩)⟩)⟩ (AllR.cons ⟨_, (by kernel_rfl), allP_nil⟩ (AllR.cons ⟨_, (by kernel_rfl), allP_nil⟩ (AllR.cons ⟨_, (by kernel_rfl), allP_nil⟩ AllR.nil)))))))))))))))) (by kernel_rfl) ?_
         refine Vi ((decide ((Lib.compareBytes (l.getD (dg1000000_8.getD i9_5.toNat 0) []) (l.getD (dg1000000_8.getD ((i9_5 - 1).toNat) 0) [])) < (0 : Int)))) (fun g20 => ?_) (fun g20 => ?_)
         ·replace h := bif_t h g20
          refine Vc [] [0, 1] ⟨[(0, kH 0), (1, kI a1), (2, kI a2), (3, .c (.s (.v (.func (.func 75) #[] #[])))), (8, kI i8_1), (9, kI i9_5)], [(1000000, kH 0), (1000001, kH 1)], [⟨.row, 22, 1, js.length, .p 1 dg1000000_8⟩, ⟨(.dp false), 22, 1, l.length, .d (.by 5) l⟩]⟩ (W_skip ?_)
          refine W_seq ?_
          refine W_block ?_
          obtain ⟨g8, g9, g10, g11, g12, h⟩ := gd5 h
          obtain ⟨g13, g14, g15, g16, g17, h⟩ := gd5 h
          refine W_regG hT fN (by kernel_rfl) [] [0, 1, 2, 3, 4, 5, 6, 7, 8, 9, 10, 11, 12, 13, 14, 16] [[0, 1, 2, 3, 4, 5, 6, 7, 8, 9, 10, 11, 12, 13, 14], [0, 1, 2, 3, 4, 5, 6, 7, 8, 9, 10, 11, 12, 13, 14, 15, 16], [0, 1, 2, 3, 4, 5, 6, 7, 8, 9, 10, 11, 12, 13, 14, 15, 16, 17]] [⟨[(0, kH 0), (1, kI a1), (2, kI a2), (3, .c (.s (.v (.func (.func 75) #[] #[])))), (8, kI i8_1), (9, kI i9_5), (37, kH 0), (38, kI i9_5), (39, kH 0), (40, kI i9_5), (41, kI (i9_5 - 1)), (42, kH 0), (43, kI i9_5), (44, kI (i9_5 - 1)), (45, kP 0 ((i9_5 - 1).toNat)), (46, .c (.gi 1 (dg1000000_8.getD ((i9_5 - 1).toNat) 0))), (47, kH 0), (48, kI i9_5), (49, kP 0 i9_5.toNat), (50, .c (.gi 1 (dg1000000_8.getD i9_5.toNat 0))), (51, kP 0 i9_5.toNat)], [(1000000, kH 0), (1000001, kH 1)], [⟨.row, 22, 1, js.length, .p 1 dg1000000_8⟩, ⟨(.dp false), 22, 1, l.length, .d (.by 5) l⟩]⟩, ⟨[(0, kH 0), (1, kI a1), (2, kI a2), (3, .c (.s (.v (.func (.func 75) #[] #[])))), (8, kI i8_1), (9, kI i9_5), (39, kH 0), (40, kI i9_5), (41, kI (i9_5 - 1)), (50, .c (.gi 1 (dg1000000_8.getD i9_5.toNat 0))), (52, kP 0 ((i9_5 - 1).toNat))], [(1000000, kH 0), (1000001, kH 1)], [⟨.row, 22, 1, js.length, .p 1 (dg1000000_8.set i9_5.toNat (dg1000000_8.getD ((i9_5 - 1).toNat) 0))⟩, ⟨(.dp false), 22, 1, l.length, .d (.by 5) l⟩]⟩, ⟨[(0, kH 0), (1, kI a1), (2, kI a2), (3, .c (.s (.v (.func (.func 75) #[] #[])))), (8, kI i8_1), (9, kI i9_5)], [(1000000, kH 0), (1000001, kH 1)], [⟨.row, 22, 1, js.length, .p 1 ((dg1000000_8.set i9_5.toNat (dg1000000_8.getD ((i9_5 - 1).toNat) 0)).set ((i9_5 - 1).toNat) (dg1000000_8.getD i9_5.toNat 0))⟩, ⟨(.dp false), 22, 1, l.length, .d (.by 5) l⟩]⟩] [0, 1, 2, 3, 4, 5, 6, 7, 8, 9, 10, 11, 12, 13, 14] [⟨0, 15, 1, [16], [], [0, 1, 2, 3, 8, 9, 39, 40, 41, 50, 52], [0, 1]⟩, ⟨1, 17, 2, [], [], [0, 1, 2, 3, 8, 9], [0, 1]⟩] [(0, 0), (0, 1), (0, 2), (0, 3), (0, 4), (0, 5), (0, 6), (0, 7), (0, 8), (0, 9), (0, 10), (0, 11), (0, 12), (0, 13), (0, 14), (1, 2), (1, 3), (1, 4), (1, 16)] 2 [0, 1, 2, 3, 8, 9, 37, 38, 39, 40, 41, 42, 43, 44, 45, 46, 47, 48, 49, 50, 51] [0, 1] [] [0, 1, 2, 3, 8, 9] [0, 1] (s' := ⟨[(0, kH 0), (1, kI a1), (2, kI a2), (3, .c (.s (.v (.func (.func 75) #[] #[])))), (8, kI i8_1), (9, kI i9_5)], [(1000000, kH 0), (1000001, kH 1)], [⟨.row, 22, 1, js.length, .p 1 ((dg1000000_8.set i9_5.toNat (dg1000000_8.getD ((i9_5 - 1).toNat) 0)).set ((i9_5 - 1).toNat) (dg1000000_8.getD i9_5.toNat 0))⟩, ⟨(.dp false), 22, 1, l.length, .d (.by 5) l⟩]⟩) (by kernel_rfl) ⟨_, (by kernel_rfl), (allP_cons.2 ⟨g8, (allP_cons.2 ⟨g9, (allP_cons.2 ⟨g10, (allP_cons.2 ⟨g11, (allP_cons.2 ⟨g12, (allP_cons.2 ⟨g13, (allP_cons.2 ⟨g14, (allP_cons.2 ⟨g15, allP_nil⟩)⟩)⟩)⟩)⟩)⟩)⟩)⟩)⟩ (AllE.cons ⟨_, (by kernel_rfl), (allP_cons.2 ⟨g16, (allP_cons.2 ⟨g17, allP_nil⟩)⟩)⟩ (AllE.cons ⟨_, (by kernel_rfl), allP_nil⟩ AllE.nil)) (AllR.cons ⟨_, (by kernel_rfl), allP_nil⟩ (AllR.cons ⟨_, (by kernel_rfl), allP_nil⟩ (AllR.cons ⟨_, (by kernel_rfl), allP_nil⟩ (AllR.cons ⟨_, (by kernel_rfl), allP_nil⟩ (AllR.cons ⟨_, (by kernel_rfl), (allP_cons.2 ⟨g8, allP_nil⟩)⟩ (AllR.cons ⟨_, (by kernel_rfl), allP_nil⟩ (AllR.cons ⟨_, (by kernel_rfl), allP_nil⟩ (AllR.cons ⟨_, (by kernel_rfl), (allP_cons.2 ⟨g9, allP_nil⟩)⟩ (AllR.cons ⟨_, (by kernel_rfl), (allP_cons.2 ⟨g10, (allP_cons.2 ⟨g11, allP_nil⟩)⟩)⟩ (AllR.cons ⟨_, (by kernel_rfl), allP_nil⟩ (AllR.cons ⟨_, (by kernel_rfl), allP_nil⟩ (AllR.cons ⟨_, (by kernel_rfl), allP_nil⟩ (AllR.cons ⟨_, (by kernel_rfl), (allP_cons.2 ⟨g12, (allP_cons.2 ⟨g13, allP_nil⟩)⟩)⟩ (AllR.cons ⟨_, (by kernel_rfl), allP_nil⟩ (AllR.cons ⟨_, (by kernel_rfl), (allP_cons.2 ⟨g14, (allP_cons.2 ⟨g15, allP_nil⟩)⟩)⟩ (AllR.cons ⟨_, (by kernel_rfl), allP_nil⟩ (AllR.cons ⟨_, (by kernel_rfl), allP_nil⟩ (AllR.cons ⟨_, (by kernel_rfl), (allP_cons.2 ⟨g8, allP_nil⟩)⟩ (AllR.cons ⟨_, (by kernel_rfl), (allP_cons.2 ⟨g16, (allP_cons.2 ⟨g17, allP_nil⟩)⟩)⟩ AllR.nil))))))))))))))))))) (by kernel_rfl) ?_
          obtain ⟨g18, h⟩ := gd_some h
          refine Vg hT fN [] [] [0, 1] (srIns_l2_E l js a1 a2 i8_1 ((dg1000000_8.set i9_5.toNat (dg1000000_8.getD ((i9_5 - 1).toNat) 0)).set ((i9_5 - 1).toNat) (dg1000000_8.getD i9_5.toNat 0)) (i9_5 - 1)) (aP g18 aN) ?_
          exact ⟨_, _, rfl, h⟩
         ·replace h := bif_f h g20
          refine Vc [] [0, 1] ⟨[(0, kH 0), (1, kI a1), (2, kI a2), (3, .c (.s (.v (.func (.func 75) #[] #[])))), (8, kI i8_1)], [(1000000, kH 0), (1000001, kH 1)], [⟨.row, 22, 1, js.length, .p 1 dg1000000_8⟩, ⟨(.dp false), 22, 1, l.length, .d (.by 5) l⟩]⟩ (W_exit ?_)
          obtain ⟨g19, h⟩ := gd_some h
          refine Vg hT fN [] [] [0, 1] (srIns_l1_E l js a1 a2 dg1000000_8 (i8_1 + 1)) (aP g19 aN) ?_
          exact ⟨_, _, rfl, h⟩
        ·replace h := bif_f h g2
         refine W_regG hT fN (by kernel_rfl) [(3, false)] [0, 1, 2, 3, 4, 5, 6, 7, 8, 9, 10, 11, 12, 13, 14, 15, 16] [[0, 1, 2, 3, 4, 5, 6, 7, 8, 9, 10, 11, 12, 13, 14, 15, 16]] [⟨[(0, kH 0), (1, kI a1), (2, kI a2), (3, .c (.s (.v (.func (.func 75) #[] #[])))), (8, kI i8_1), (9, kI i9_5), (18, kI i9_5), (19, kI a1), (20, kB (decide (a1 < i9_5))), (21, kB false), (22, .t []), (23, .t []), (24, .t []), (25, .t []), (26, .t []), (27, .t []), (28, .t []), (29, .t []), (30, .t []), (31, .t []), (32, .t []), (33, .t []), (34, kB false)], [(1000000, kH 0), (1000001, kH 1)], [⟨.row, 22, 1, js.length, .p 1 dg1000000_8⟩, ⟨(.dp false), 22, 1, l.length, .d (.by 5) l⟩]⟩] [0, 1, 2, 3, 4, 5, 6, 7, 8, 9, 10, 11, 12, 13, 14, 15, 16] [] [(0, 0), (0, 1), (0, 2), (0, 3), (0, 4), (0, 5), (0, 6), (0, 7), (0, 8), (0, 9), (0, 10), (0, 11), (0, 12), (0, 13), (0, 14), (0, 15), (0, 16)] 0 [0, 1, 2, 3, 8, 9, 18, 19, 20, 21, 22, 23, 24, 25, 26, 27, 28, 29, 30, 31, 32, 33, 34] [0, 1] [] [0, 1, 2, 3, 8, 9, 34] [0, 1] (s' := ⟨[(0, kH 0), (1, kI a1), (2, kI a2), (3, .c (.s (.v (.func (.func 75) #[] #[])))), (8, kI i8_1), (9, kI i9_5), (34, kB false)], [(1000000, kH 0), (1000001, kH 1)], [⟨.row, 22, 1, js.length, .p 1 dg1000000_8⟩, ⟨(.dp false), 22, 1, l.length, .d (.by 5) l⟩]⟩) (by kernel_rfl) ⟨_, (by kernel_rfl), (allP_cons.2 ⟨g2, allP_nil⟩)⟩ AllE.nil (AllR.cons ⟨_, (by kernel_rfl), allP_nil⟩ (AllR.cons ⟨_, (by kernel_rfl), allP_nil⟩ (AllR.cons ⟨_, (by kernel_rfl), allP_nil⟩ (AllR.cons ⟨_, (by kernel_rfl), (allP_cons.2 ⟨g2, allP_nil⟩)⟩ (AllR.cons ⟨_, (by kernel_rfl), allP_nil⟩ (AllR.cons ⟨_, (by kernel_rfl), allP_nil⟩ (AllR.cons ⟨_, (by kernel_rfl), allP_nil⟩ (AllR.cons ⟨_, (by kernel_rfl), allP_nil⟩ (AllR.cons ⟨_, (by kernel_rfl), allP_nil⟩ (AllR.cons ⟨_, (by kernel_rfl), allP_nil⟩ (AllR.cons ⟨_, (by kernel_rfl), allP_nil⟩ (AllR.cons ⟨_, (by kernel_rfl), allP_nil⟩ (AllR.cons ⟨_, (by kernel_rfl), allP_nil⟩ (AllR.cons ⟨_, (by kernel_rfl), allP_nil⟩ (AllR.cons ⟨_, (by kernel_rfl), allP_nil⟩ (AllR.cons ⟨_, (by kernel_rfl), allP_nil⟩ (AllR.cons ⟨_, (by kernel_rfl), allP_nil⟩ AllR.nil))))))))))))))))) (by kernel_rfl) ?_
         refine Vi (false) (fun hb => by cases hb) (fun _ => ?_)
         refine Vc [] [0, 1] ⟨[(0, kH 0), (1, kI a1), (2, kI a2), (3, .c (.s (.v (.func (.func 75) #[] #[])))), (8, kI i8_1)], [(1000000, kH 0), (1000001, kH 1)], [⟨.row, 22, 1, js.length, .p 1 dg1000000_8⟩, ⟨(.dp false), 22, 1, l.length, .d (.by 5) l⟩]⟩ (W_exit ?_)
         obtain ⟨g21, h⟩ := gd_some h
         refine Vg hT fN [] [] [0, 1] (srIns_l1_E l js a1 a2 dg1000000_8 (i8_1 + 1)) (aP g21 aN) ?_
         exact ⟨_, _, rfl, h⟩
      ·replace h := bif_f h g22
       refine Vc [] [0, 1] (srIns_R l js dg1000000_6) (W_exit ?_)
       exact ⟨.inr rfl, by cases h; rfl⟩
 ·cases ns with
  | nil => exact (show False from h).elim
  | cons a1 ns =>
   cases ns with
   | nil => exact (show False from h).elim
   | cons a2 ns =>
    cases ns with
    | cons z ns => exact (show False from h).elim
    | nil =>
     exact Nat.le_of_ble_eq_true rfl
def srSwap_l1_E (l : List (List UInt8)) (js : List Nat) (a1 : Int) (a2 : Int) (a3 : Int) (dg1000000_2 : List Nat) (i10_1 : Int) : S := ⟨[(0, kH 0), (1, kI a1), (2, kI a2), (3, kI a3), (10, kI i10_1)], [(1000000, kH 0), (1000001, kH 1)], [⟨.row, 22, 1, js.length, .p 1 dg1000000_2⟩, ⟨(.dp false), 22, 1, l.length, .d (.by 5) l⟩]⟩
abbrev srSwap_l1_P (n : Nat) (l : List (List UInt8)) (js : List Nat) (a1 : Int) (a2 : Int) (a3 : Int) (r : List Nat) (fu : Nat) : S → Prop := fun s => ∃ (dg1000000_2 : List Nat), ∃ (i10_1 : Int), s = srSwap_l1_E l js a1 a2 a3 dg1000000_2 i10_1 ∧ srSwap_l1 n l js a1 a2 a3 fu dg1000000_2 i10_1 = some r
def srSwap_R (l : List (List UInt8)) (js : List Nat) (r : List Nat) : S := ⟨[], [(1000000, kH 0), (1000001, kH 1)], [⟨.row, 22, 1, js.length, .p 1 r⟩, ⟨(.dp false), 22, 1, l.length, .d (.by 5) l⟩]⟩
def srSwap_ct (n : Nat) (r : List Nat) : CtM := rwC 75 22 (fun l js ns => match ns with | [a1, a2, a3] => srSwap n l js a1 a2 a3 = some r | _ => False) r
theorem srSwap_ok (n : Nat) (r : List Nat) : FnMOk Try.prog 92 (srSwap_ct n r) := by
 refine fnokR (e' := 5) 38 (fun l js => srSwap_R l js r) Try.func92 (fun w bs l js ns h => ?_) (fun l js ns h => ?_) (fun l js => ⟨_, rfl⟩)
 ·cases ns with
  | nil => exact (show False from h).elim
  | cons a1 ns =>
   cases ns with
   | nil => exact (show False from h).elim
   | cons a2 ns =>
    cases ns with
    | nil => exact (show False from h).elim
    | cons a3 ns =>
     cases ns with
     | cons z ns => exact (show False from h).elim
     | nil =>
      have h : srSwap n l js a1 a2 a3 = some r := h
      unfold srSwap at h
      have hT := tabO_psa
      refine Vrs hT [0, 1] ⟨[(0, kH 0), (1, kI a1), (2, kI a2), (3, kI a3), (10, kI 0)], [(1000000, kH 0), (1000001, kH 1)], [⟨.row, 22, 1, js.length, .p 1 js⟩, ⟨(.dp false), 22, 1, l.length, .d (.by 5) l⟩]⟩ ?_
      refine W_block ?_
      refine Vc [] [0, 1] (srSwap_l1_E l js a1 a2 a3 js 0) (W_lp ((srSwap_l1_P n l js a1 a2 a3 r)) n ⟨_, _, rfl, h⟩ ?_)
      rintro fu_l1 _ ⟨dg1000000_2, i10_1, rfl, h⟩
      cases fu_l1 with
      | zero => cases h
      | succ fu_l1 =>
       refine ⟨fu_l1, rfl, ?_⟩
       rw [srSwap_l1] at h
       refine W_seq ?_
       refine Vrs hT [0, 1] ⟨[(0, kH 0), (1, kI a1), (2, kI a2), (3, kI a3), (10, kI i10_1), (13, kB (decide (i10_1 < a3)))], [(1000000, kH 0), (1000001, kH 1)], [⟨.row, 22, 1, js.length, .p 1 dg1000000_2⟩, ⟨(.dp false), 22, 1, l.length, .d (.by 5) l⟩]⟩ ?_
       refine Vi ((decide (i10_1 < a3))) (fun g14 => ?_) (fun g14 => ?_)
       ·replace h := bif_t h g14
        refine Vc [] [0, 1] ⟨[(0, kH 0), (1, kI a1), (2, kI a2), (3, kI a3), (10, kI i10_1)], [(1000000, kH 0), (1000001, kH 1)], [⟨.row, 22, 1, js.length, .p 1 dg1000000_2⟩, ⟨(.dp false), 22, 1, l.length, .d (.by 5) l⟩]⟩ (W_skip ?_)
        refine W_seq ?_
        refine W_block ?_
        obtain ⟨g1, g2, g3, g4, g5, h⟩ := gd5 h
        obtain ⟨g6, g7, g8, g9, g10, h⟩ := gd5 h
        obtain ⟨g11, g12, h⟩ := gd2 h
        refine W_regG hT fN (by kernel_rfl) [] [0, 1, 2, 3, 4, 5, 6, 7, 8, 9, 10, 11, 12, 13, 14, 15, 16, 17, 18, 19, 20, 22] [[0, 1, 2, 3, 4, 5, 6, 7, 8, 9, 10, 11, 12, 13, 14, 15, 16, 17, 18, 19, 20], [0, 1, 2, 3, 4, 5, 6, 7, 8, 9, 10, 11, 12, 13, 14, 15, 16, 17, 18, 19, 20, 21, 22], [0, 1, 2, 3, 4, 5, 6, 7, 8, 9, 10, 11, 12, 13, 14, 15, 16, 17, 18, 19, 20, 21, 22, 23]] [⟨[(0, kH 0), (1, kI a1), (2, kI a2), (3, kI a3), (10, kI i10_1), (16, kH 0), (17, kI a1), (18, kI i10_1), (19, kI (a1 + i10_1)), (20, kH 0), (21, kI a2), (22, kI i10_1), (23, kI (a2 + i10_1)), (24, kH 0), (25, kI a2), (26, kI i10_1), (27, kI (a2 + i10_1)), (28, kP 0 ((a2 + i10_1).toNat)), (29, .c (.gi 1 (dg1000000_2.getD ((a2 + i10_1).toNat) 0))), (30, kH 0), (31, kI a1), (32, kI i10_1), (33, kI (a1 + i10_1)), (34, kP 0 ((a1 + i10_1).toNat)), (35, .c (.gi 1 (dg1000000_2.getD ((a1 + i10_1).toNat) 0))), (36, kP 0 ((a1 + i10_1).toNat))], [(1000000, kH 0), (1000001, kH 1)], [⟨.row, 22, 1, js.length, .p 1 dg1000000_2⟩, ⟨(.dp false), 22, 1, l.length, .d (.by 5) l⟩]⟩, ⟨[(0, kH 0), (1, kI a1), (2, kI a2), (3, kI a3), (10, kI i10_1), (20, kH 0), (21, kI a2), (22, kI i10_1), (23, kI (a2 + i10_1)), (35, .c (.gi 1 (dg1000000_2.getD ((a1 + i10_1).toNat) 0))), (37, kP 0 ((a2 + i10_1).toNat))], [(1000000, kH 0), (1000001, kH 1)], [⟨.row, 22, 1, js.length, .p 1 (dg1000000_2.set ((a1 + i10_1).toNat) (dg1000000_2.getD ((a2 + i10_1).toNat) 0))⟩, ⟨(.dp false), 22, 1, l.length, .d (.by 5) l⟩]⟩, ⟨[(0, kH 0), (1, kI a1), (2, kI a2), (3, kI a3), (10, kI i10_1)], [(1000000, kH 0), (1000001, kH 1)], [⟨.row, 22, 1, js.length, .p 1 ((dg1000000_2.set ((a1 + i10_1).toNat) (dg1000000_2.getD ((a2 + i10_1).toNat) 0)).set ((a2 + i10_1).toNat) (dg1000000_2.getD ((a1 + i10_1).toNat) 0))⟩, ⟨(.dp false), 22, 1, l.length, .d (.by 5) l⟩]⟩] [0, 1, 2, 3, 4, 5, 6, 7, 8, 9, 10, 11, 12, 13, 14, 15, 16, 17, 18, 19, 20] [⟨0, 21, 1, [22], [], [0, 1, 2, 3, 10, 20, 21, 22, 23, 35, 37], [0, 1]⟩, ⟨1, 23, 2, [], [], [0, 1, 2, 3, 10], [0, 1]⟩] [(0, 0), (0, 1), (0, 2), (0, 3), (0, 4), (0, 5), (0, 6), (0, 7), (0, 8), (0, 9), (0, 10), (0, 11), (0, 12), (0, 13), (0, 14), (0, 15), (0, 16), (0, 17), (0, 18), (0, 19), (0, 20), (1, 4), (1, 5), (1, 6), (1, 7), (1, 22)] 2 [0, 1, 2, 3, 10, 16, 17, 18, 19, 20, 21, 22, 23, 24, 25, 26, 27, 28, 29, 30, 31, 32, 33, 34, 35, 36] [0, 1] [] [0, 1, 2, 3, 10] [0, 1] (s' := ⟨[(0, kH 0), (1, kI a1), (2, kI a2), (3, kI a3), (10, kI i10_1)], [(1000000, kH 0), (1000001, kH 1)], [⟨.row, 22, 1, js.length, .p 1 ((dg1000000_2.set ((a1 + i10_1).toNat) (dg1000000_2.getD ((a2 + i10_1).toNat) 0)).set ((a2 + i10_1).toNat) (dg1000000_2.getD ((a1 + i10_1).toNat) 0))⟩, ⟨(.dp false), 22, 1, l.length, .d (.by 5) l⟩]⟩) (by kernel_rfl) ⟨_, (by kernel_rfl), (allP_cons.2 ⟨g1, (allP_cons.2 ⟨g2, (allP_cons.2 ⟨g3, (allP_cons.2 ⟨g4, (allP_cons.2 ⟨g5, (allP_cons.2 ⟨g6, (allP_cons.2 ⟨g7, (allP_cons.2 ⟨g8, (allP_cons.2 ⟨g9, (allP_cons.2 ⟨g10, allP_nil⟩)⟩)⟩)⟩)⟩)⟩)⟩)⟩)⟩)⟩)⟩ (AllE.cons ⟨_, (by kernel_rfl), (allP_cons.2 ⟨g11, (allP_cons.2 ⟨g12, allP_nil⟩)⟩)⟩ (AllE.cons ⟨_, (by kernel_rfl), allP_nil⟩ AllE.nil)) (AllR.cons ⟨_, (by kernel_rfl), allP_nil⟩ (AllR.cons ⟨_, (by kernel_rfl), allP_nil⟩ (AllR.cons ⟨_, (by kernel_rfl), allP_nil⟩ (AllR.cons ⟨_, (by kernel_rfl), (allP_cons.2 ⟨g1, allP_nil⟩)⟩ (AllR.cons ⟨_, (by kernel_rfl), allP_nil⟩ (AllR.cons ⟨_, (by kernel_rfl), allP_nil⟩ (AllR.cons ⟨_, (by kernel_rfl), allP_nil⟩ (AllR.cons ⟨_, (by kernel_rfl), (allP_cons.2 ⟨g2, allP_nil⟩)⟩ (AllR.cons ⟨_, (by kernel_rfl), allP_nil⟩ (AllR.cons ⟨_, (by kernel_rfl), allP_nil⟩ (AllR.cons ⟨_, (by kernel_rfl), allP_nil⟩ (AllR.cons ⟨_, (by kernel_rfl), (allP_cons.2 ⟨g3, allP_nil⟩)⟩ (AllR.cons ⟨_, (by kernel_rfl), (allP_cons.2 ⟨g4, (allP_cons.2 ⟨g5, allP_nil⟩)⟩)⟩ (AllR.cons ⟨_, (by kernel_rfl), allP_nil⟩ (AllR.cons ⟨_, (by kernel_rfl), allP_nil⟩ (AllR.cons ⟨_, (by kernel_rfl), allP_nil⟩ (AllR.cons ⟨_, (by kernel_rfl), allP_nil⟩ (AllR.cons ⟨_, (by kernel_rfl), (allP_cons.2 ⟨g6, allP_nil⟩)⟩ (AllR.cons ⟨_, (by kernel_rfl), (allP_cons.2 ⟨g7, (allP_cons.2 ⟨g8, allP_nil⟩)⟩)⟩ (AllR.cons ⟨_, (by kernel_rfl), allP_nil⟩ (AllR.cons ⟨_, (by kernel_rfl), (allP_cons.2 ⟨g9, (allP_cons.2 ⟨g10, allP_nil⟩)⟩)⟩ (AllR.cons ⟨_, (by kernel_rfl), allP_nil⟩ (AllR.cons ⟨_, (by kernel_rfl), allP_nil⟩ (AllR.cons ⟨_, (by kernel_rfl), allP_nil⟩ (AllR.cons ⟨_, (by kernel_rfl), (allP_cons.2 ⟨g2, allP_nil⟩)⟩ (AllR.cons ⟨_, (by kernel_rfl), (allP_cons.2 ⟨g11, (allP_cons.2 ⟨g12, allP_nil⟩)⟩)⟩ AllR.nil)))))))))))))))))))))))))) (by kernel_rfl) ?_
        obtain ⟨g13, h⟩ := gd_some h
        refine Vg hT fN [] [] [0, 1] (srSwap_l1_E l js a1 a2 a3 ((dg1000000_2.set ((a1 + i10_1).toNat) (dg1000000_2.getD ((a2 + i10_1).toNat) 0)).set ((a2 + i10_1).toNat) (dg1000000_2.getD ((a1 + i10_1).toNat) 0)) (i10_1 + 1)) (aP g13 aN) ?_
        exact ⟨_, _, rfl, h⟩
       ·replace h := bif_f h g14
        refine Vc [] [0, 1] (srSwap_R l js dg1000000_2) (W_exit ?_)
        exact ⟨.inr rfl, by cases h; rfl⟩
 ·cases ns with
  | nil => exact (show False from h).elim
  | cons a1 ns =>
   cases ns with
   | nil => exact (show False from h).elim
   | cons a2 ns =>
    cases ns with
    | nil => exact (show False from h).elim
    | cons a3 ns =>
     cases ns with
     | cons z ns => exact (show False from h).elim
     | nil =>
      exact Nat.le_of_ble_eq_true rfl
def srRot_j1_E (l : List (List UInt8)) (js : List Nat) (a2 : Int) (dg1000000_5 : List Nat) (i10_4 : Int) : S := ⟨[(0, kH 0), (2, kI a2), (4, .c (.s (.v (.func (.func 75) #[] #[])))), (10, kI i10_4)], [(1000000, kH 0), (1000001, kH 1)], [⟨.row, 22, 1, js.length, .p 1 dg1000000_5⟩, ⟨(.dp false), 22, 1, l.length, .d (.by 5) l⟩]⟩
abbrev srRot_j1_P (n : Nat) (l : List (List UInt8)) (js : List Nat) (a2 : Int) (r : List Nat) : S → Prop := fun s => ∃ (dg1000000_5 : List Nat), ∃ (i10_4 : Int), s = srRot_j1_E l js a2 dg1000000_5 i10_4 ∧ srRot_j1 n l js a2 dg1000000_5 i10_4 = some r
def srRot_l1_E (l : List (List UInt8)) (js : List Nat) (a2 : Int) (dg1000000_6 : List Nat) (i10_5 : Int) (i11_3 : Int) : S := ⟨[(0, kH 0), (2, kI a2), (4, .c (.s (.v (.func (.func 75) #[] #[])))), (10, kI i10_5), (11, kI i11_3)], [(1000000, kH 0), (1000001, kH 1)], [⟨.row, 22, 1, js.length, .p 1 dg1000000_6⟩, ⟨(.dp false), 22, 1, l.length, .d (.by 5) l⟩]⟩
abbrev srRot_l1_P (n : Nat) (l : List (List UInt8)) (js : List Nat) (a2 : Int) (r : List Nat) (fu : Nat) : S → Prop := fun s => ∃ (dg1000000_6 : List Nat), ∃ (i10_5 : Int), ∃ (i11_3 : Int), s = srRot_l1_E l js a2 dg1000000_6 i10_5 i11_3 ∧ srRot_l1 n l js a2 fu dg1000000_6 i10_5 i11_3 = some r
def srRot_R (l : List (List UInt8)) (js : List Nat) (r : List Nat) : S := ⟨[], [(1000000, kH 0), (1000001, kH 1)], [⟨.row, 22, 1, js.length, .p 1 r⟩, ⟨(.dp false), 22, 1, l.length, .d (.by 5) l⟩]⟩
def srRot_ct (n : Nat) (r : List Nat) : CtM := rwC 75 22 (fun l js ns => match ns with | [a1, a2, a3] => srRot n l js a1 a2 a3 = some r | _ => False) r
theorem srRot_ok (n : Nat) (r : List Nat) : FnMOk Try.prog 91 (srRot_ct n r) := by
 refine fnokR (e' := 5) 58 (fun l js => srRot_R l js r) Try.func91 (fun w bs l js ns h => ?_) (fun l js ns h => ?_) (fun l js => ⟨_, rfl⟩)
 ·cases ns with
  | nil => exact (show False from h).elim
  | cons a1 ns =>
   cases ns with
   | nil => exact (show False from h).elim
   | cons a2 ns =>
    cases ns with
    | nil => exact (show False from h).elim
    | cons a3 ns =>
     cases ns with
     | cons z ns => exact (show False from h).elim
     | nil =>
      have h : srRot n l js a1 a2 a3 = some r := h
      unfold srRot at h
      have hT := tabO_psa
      obtain ⟨g1, h⟩ := gd_some h
      refine Vgs hT fN [] [] [0, 1] ⟨[(0, kH 0), (2, kI a2), (3, kI a3), (4, .c (.s (.v (.func (.func 75) #[] #[])))), (10, kI (a2 - a1))], [(1000000, kH 0), (1000001, kH 1)], [⟨.row, 22, 1, js.length, .p 1 js⟩, ⟨(.dp false), 22, 1, l.length, .d (.by 5) l⟩]⟩ (aP g1 aN) ?_
      obtain ⟨g2, h⟩ := gd_some h
      refine Vgs hT fN [] [] [0, 1] ⟨[(0, kH 0), (2, kI a2), (4, .c (.s (.v (.func (.func 75) #[] #[])))), (10, kI (a2 - a1)), (11, kI (a3 - a2))], [(1000000, kH 0), (1000001, kH 1)], [⟨.row, 22, 1, js.length, .p 1 js⟩, ⟨(.dp false), 22, 1, l.length, .d (.by 5) l⟩]⟩ (aP g2 aN) ?_
      refine W_join (srRot_j1_P n l js a2 r) ?_ ?_
      ·rintro _ ⟨dg1000000_5, i10_4, rfl, h⟩
       unfold srRot_j1 at h
       obtain ⟨g3, h⟩ := gd_some h
       obtain ⟨r57_1, g4, h⟩ := bind_some' h
       refine Vg hT (fM 7 (srSwap_ok n r57_1) fN) [] [] [0, 1] (srRot_R l js r57_1) (aP g3 (aP g4 aN)) ?_
       exact ⟨.inr rfl, by cases h; rfl⟩
      ·refine W_block ?_
       refine Vc [] [0, 1] (srRot_l1_E l js a2 js (a2 - a1) (a3 - a2)) (W_lp ((srRot_l1_P n l js a2 r)) n ⟨_, _, _, rfl, h⟩ ?_)
       rintro fu_l1 _ ⟨dg1000000_6, i10_5, i11_3, rfl, h⟩
       cases fu_l1 with
       | zero => cases h
       | succ fu_l1 =>
        refine ⟨fu_l1, rfl, ?_⟩
        rw [srRot_l1] at h
        refine W_seq ?_
        refine Vrs hT [0, 1] ⟨[(0, kH 0), (2, kI a2), (4, .c (.s (.v (.func (.func 75) #[] #[])))), (10, kI i10_5), (11, kI i11_3), (20, kB (i10_5 != i11_3))], [(1000000, kH 0), (1000001, kH 1)], [⟨.row, 22, 1, js.length, .p 1 dg1000000_6⟩, ⟨(.dp false), 22, 1, l.length, .d (.by 5) l⟩]⟩ ?_
        refine Vi ((i10_5 != i11_3)) (fun g14 => ?_) (fun g14 => ?_)
        ·replace h := bif_t h g14
         refine W_skip ?_
         refine W_block ?_
         refine Vrs hT [0, 1] ⟨[(0, kH 0), (2, kI a2), (4, .c (.s (.v (.func (.func 75) #[] #[])))), (10, kI i10_5), (11, kI i11_3), (23, kB (decide (i11_3 < i10_5)))], [(1000000, kH 0), (1000001, kH 1)], [⟨.row, 22, 1, js.length, .p 1 dg1000000_6⟩, ⟨(.dp false), 22, 1, l.length, .d (.by 5) l⟩]⟩ ?_
         refine Vi ((decide (i11_3 < i10_5))) (fun g13 => ?_) (fun g13 => ?_)
         ·replace h := bif_t h g13
          obtain ⟨g5, h⟩ := gd_some h
          obtain ⟨r31_4, g6, h⟩ := bind_some' h
          refine Vgs hT (fM 7 (srSwap_ok n r31_4) fN) [] [] [0, 1] ⟨[(0, kH 0), (2, kI a2), (4, .c (.s (.v (.func (.func 75) #[] #[])))), (10, kI i10_5), (11, kI i11_3)], [(1000000, kH 0), (1000001, kH 1)], [⟨.row, 22, 1, js.length, .p 1 r31_4⟩, ⟨(.dp false), 22, 1, l.length, .d (.by 5) l⟩]⟩ (aP g5 (aP g6 aN)) ?_
          obtain ⟨g7, h⟩ := gd_some h
          refine Vg hT fN [] [] [0, 1] (srRot_l1_E l js a2 r31_4 (i10_5 - i11_3) i11_3) (aP g7 aN) ?_
          exact ⟨_, _, _, rfl, h⟩
         ·replace h := bif_f h g13
          obtain ⟨g8, g9, g10, h⟩ := gd3 h
          obtain ⟨r46_4, g11, h⟩ := bind_some' h
          refine Vgs hT (fM 11 (srSwap_ok n r46_4) fN) [] [] [0, 1] ⟨[(0, kH 0), (2, kI a2), (4, .c (.s (.v (.func (.func 75) #[] #[])))), (10, kI i10_5), (11, kI i11_3)], [(1000000, kH 0), (1000001, kH 1)], [⟨.row, 22, 1, js.length, .p 1 r46_4⟩, ⟨(.dp false), 22, 1, l.length, .d (.by 5) l⟩]⟩ (aP g8 (aP g9 (aP g10 (aP g11 aN)))) ?_
          obtain ⟨g12, h⟩ := gd_some h
          refine Vg hT fN [] [] [0, 1] (srRot_l1_E l js a2 r46_4 i10_5 (i11_3 - i10_5)) (aP g12 aN) ?_
          exact ⟨_, _, _, rfl, h⟩
        ·replace h := bif_f h g14
         refine Vc [] [0, 1] (srRot_j1_E l js a2 dg1000000_6 i10_5) (W_exit ?_)
         exact ⟨_, _, rfl, h⟩
 ·cases ns with
  | nil => exact (show False from h).elim
  | cons a1 ns =>
   cases ns with
   | nil => exact (show False from h).elim
   | cons a2 ns =>
    cases ns with
    | nil => exact (show False from h).elim
    | cons a3 ns =>
     cases ns with
     | cons z ns => exact (show False from h).elim
     | nil =>
      exact Nat.le_of_ble_eq_true rfl
def srMerge_l1_E (l : List (List UInt8)) (js : List Nat) (i10_4 : Int) (dg1000000_5 : List Nat) (i13_1 : Int) : S := ⟨[(0, kH 0), (10, kI i10_4), (13, kI i13_1)], [(1000000, kH 0), (1000001, kH 1)], [⟨.row, 22, 1, js.length, .p 1 dg1000000_5⟩, ⟨(.dp false), 22, 1, l.length, .d (.by 5) l⟩]⟩
abbrev srMerge_l1_P (n : Nat) (l : List (List UInt8)) (js : List Nat) (i10_4 : Int) (r : List Nat) (fu : Nat) : S → Prop := fun s => ∃ (dg1000000_5 : List Nat), ∃ (i13_1 : Int), s = srMerge_l1_E l js i10_4 dg1000000_5 i13_1 ∧ srMerge_l1 n (srMerge n) l js i10_4 fu dg1000000_5 i13_1 = some r
def srMerge_j1_E (l : List (List UInt8)) (js : List Nat) (a1 : Int) (i10_4 : Int) : S := ⟨[(0, kH 0), (1, kI a1), (10, kI i10_4)], [(1000000, kH 0), (1000001, kH 1)], [⟨.row, 22, 1, js.length, .p 1 js⟩, ⟨(.dp false), 22, 1, l.length, .d (.by 5) l⟩]⟩
abbrev srMerge_j1_P (n : Nat) (l : List (List UInt8)) (js : List Nat) (a1 : Int) (r : List Nat) : S → Prop := fun s => ∃ (i10_4 : Int), s = srMerge_j1_E l js a1 i10_4 ∧ srMerge_j1 n (srMerge n) l js a1 i10_4 = some r
def srMerge_l2_E (l : List (List UInt8)) (js : List Nat) (a1 : Int) (i10_5 : Int) (i11_3 : Int) : S := ⟨[(0, kH 0), (1, kI a1), (4, .c (.s (.v (.func (.func 75) #[] #[])))), (10, kI i10_5), (11, kI i11_3)], [(1000000, kH 0), (1000001, kH 1)], [⟨.row, 22, 1, js.length, .p 1 js⟩, ⟨(.dp false), 22, 1, l.length, .d (.by 5) l⟩]⟩
abbrev srMerge_l2_P (n : Nat) (l : List (List UInt8)) (js : List Nat) (a1 : Int) (r : List Nat) (fu : Nat) : S → Prop := fun s => ∃ (i10_5 : Int), ∃ (i11_3 : Int), s = srMerge_l2_E l js a1 i10_5 i11_3 ∧ srMerge_l2 n (srMerge n) l js a1 fu i10_5 i11_3 = some r
def srMerge_l3_E (l : List (List UInt8)) (js : List Nat) (i14_4 : Int) (dg1000000_6 : List Nat) (i17_1 : Int) : S := ⟨[(0, kH 0), (14, kI i14_4), (17, kI i17_1)], [(1000000, kH 0), (1000001, kH 1)], [⟨.row, 22, 1, js.length, .p 1 dg1000000_6⟩, ⟨(.dp false), 22, 1, l.length, .d (.by 5) l⟩]⟩
abbrev srMerge_l3_P (n : Nat) (l : List (List UInt8)) (js : List Nat) (i14_4 : Int) (r : List Nat) (fu : Nat) : S → Prop := fun s => ∃ (dg1000000_6 : List Nat), ∃ (i17_1 : Int), s = srMerge_l3_E l js i14_4 dg1000000_6 i17_1 ∧ srMerge_l3 n (srMerge n) l js i14_4 fu dg1000000_6 i17_1 = some r
def srMerge_j2_E (l : List (List UInt8)) (js : List Nat) (a2 : Int) (i14_4 : Int) : S := ⟨[(0, kH 0), (2, kI a2), (14, kI i14_4)], [(1000000, kH 0), (1000001, kH 1)], [⟨.row, 22, 1, js.length, .p 1 js⟩, ⟨(.dp false), 22, 1, l.length, .d (.by 5) l⟩]⟩
abbrev srMerge_j2_P (n : Nat) (l : List (List UInt8)) (js : List Nat) (a2 : Int) (r : List Nat) : S → Prop := fun s => ∃ (i14_4 : Int), s = srMerge_j2_E l js a2 i14_4 ∧ srMerge_j2 n (srMerge n) l js a2 i14_4 = some r
def srMerge_l4_E (l : List (List UInt8)) (js : List Nat) (a2 : Int) (i14_5 : Int) (i15_3 : Int) : S := ⟨[(0, kH 0), (2, kI a2), (4, .c (.s (.v (.func (.func 75) #[] #[])))), (14, kI i14_5), (15, kI i15_3)], [(1000000, kH 0), (1000001, kH 1)], [⟨.row, 22, 1, js.length, .p 1 js⟩, ⟨(.dp false), 22, 1, l.length, .d (.by 5) l⟩]⟩
abbrev srMerge_l4_P (n : Nat) (l : List (List UInt8)) (js : List Nat) (a2 : Int) (r : List Nat) (fu : Nat) : S → Prop := fun s => ∃ (i14_5 : Int), ∃ (i15_3 : Int), s = srMerge_l4_E l js a2 i14_5 i15_3 ∧ srMerge_l4 n (srMerge n) l js a2 fu i14_5 i15_3 = some r
def srMerge_j6_E (l : List (List UInt8)) (js : List Nat) (a1 : Int) (a2 : Int) (a3 : Int) (i20_6 : Int) (dg1000000_8 : List Nat) : S := ⟨[(0, kH 0), (3, kI a3), (4, .c (.s (.v (.func (.func 75) #[] #[])))), (18, kI (IntKind.i64.wrap (((shr64 (UInt64.ofInt (a1 + a3)) 1).toNat : Nat) : Int))), (24, kI (((IntKind.i64.wrap (((shr64 (UInt64.ofInt (a1 + a3)) 1).toNat : Nat) : Int)) + a2) - i20_6))], [(1000000, kH 0), (1000001, kH 1)], [⟨.row, 22, 1, js.length, .p 1 dg1000000_8⟩, ⟨(.dp false), 22, 1, l.length, .d (.by 5) l⟩]⟩
abbrev srMerge_j6_P (n : Nat) (l : List (List UInt8)) (js : List Nat) (a1 : Int) (a2 : Int) (a3 : Int) (i20_6 : Int) (r : List Nat) : S → Prop := fun s => ∃ (dg1000000_8 : List Nat), s = srMerge_j6_E l js a1 a2 a3 i20_6 dg1000000_8 ∧ srMerge_j6 n (srMerge n) l js a1 a2 a3 i20_6 dg1000000_8 = some r
def srMerge_j5_E (l : List (List UInt8)) (js : List Nat) (a1 : Int) (a2 : Int) (a3 : Int) (i20_6 : Int) (dg1000000_7 : List Nat) : S := ⟨[(0, kH 0), (1, kI a1), (3, kI a3), (4, .c (.s (.v (.func (.func 75) #[] #[])))), (18, kI (IntKind.i64.wrap (((shr64 (UInt64.ofInt (a1 + a3)) 1).toNat : Nat) : Int))), (20, kI i20_6), (24, kI (((IntKind.i64.wrap (((shr64 (UInt64.ofInt (a1 + a3)) 1).toNat : Nat) : Int)) + a2) - i20_6))], [(1000000, kH 0), (1000001, kH 1)], [⟨.row, 22, 1, js.length, .p 1 dg1000000_7⟩, ⟨(.dp false), 22, 1, l.length, .d (.by 5) l⟩]⟩
abbrev srMerge_j5_P (n : Nat) (l : List (List UInt8)) (js : List Nat) (a1 : Int) (a2 : Int) (a3 : Int) (i20_6 : Int) (r : List Nat) : S → Prop := fun s => ∃ (dg1000000_7 : List Nat), s = srMerge_j5_E l js a1 a2 a3 i20_6 dg1000000_7 ∧ srMerge_j5 n (srMerge n) l js a1 a2 a3 i20_6 dg1000000_7 = some r
def srMerge_j4_E (l : List (List UInt8)) (js : List Nat) (a1 : Int) (a2 : Int) (a3 : Int) (i20_6 : Int) : S := ⟨[(0, kH 0), (1, kI a1), (2, kI a2), (3, kI a3), (4, .c (.s (.v (.func (.func 75) #[] #[])))), (18, kI (IntKind.i64.wrap (((shr64 (UInt64.ofInt (a1 + a3)) 1).toNat : Nat) : Int))), (19, kI ((IntKind.i64.wrap (((shr64 (UInt64.ofInt (a1 + a3)) 1).toNat : Nat) : Int)) + a2)), (20, kI i20_6)], [(1000000, kH 0), (1000001, kH 1)], [⟨.row, 22, 1, js.length, .p 1 js⟩, ⟨(.dp false), 22, 1, l.length, .d (.by 5) l⟩]⟩
abbrev srMerge_j4_P (n : Nat) (l : List (List UInt8)) (js : List Nat) (a1 : Int) (a2 : Int) (a3 : Int) (r : List Nat) : S → Prop := fun s => ∃ (i20_6 : Int), s = srMerge_j4_E l js a1 a2 a3 i20_6 ∧ srMerge_j4 n (srMerge n) l js a1 a2 a3 i20_6 = some r
def srMerge_l5_E (l : List (List UInt8)) (js : List Nat) (a1 : Int) (a2 : Int) (a3 : Int) (i20_7 : Int) (i21_5 : Int) : S := ⟨[(0, kH 0), (1, kI a1), (2, kI a2), (3, kI a3), (4, .c (.s (.v (.func (.func 75) #[] #[])))), (18, kI (IntKind.i64.wrap (((shr64 (UInt64.ofInt (a1 + a3)) 1).toNat : Nat) : Int))), (19, kI ((IntKind.i64.wrap (((shr64 (UInt64.ofInt (a1 + a3)) 1).toNat : Nat) : Int)) + a2)), (20, kI i20_7), (21, kI i21_5), (22, kI (((IntKind.i64.wrap (((shr64 (UInt64.ofInt (a1 + a3)) 1).toNat : Nat) : Int)) + a2) - 1))], [(1000000, kH 0), (1000001, kH 1)], [⟨.row, 22, 1, js.length, .p 1 js⟩, ⟨(.dp false), 22, 1, l.length, .d (.by 5) l⟩]⟩
abbrev srMerge_l5_P (n : Nat) (l : List (List UInt8)) (js : List Nat) (a1 : Int) (a2 : Int) (a3 : Int) (r : List Nat) (fu : Nat) : S → Prop := fun s => ∃ (i20_7 : Int), ∃ (i21_5 : Int), s = srMerge_l5_E l js a1 a2 a3 i20_7 i21_5 ∧ srMerge_l5 n (srMerge n) l js a1 a2 a3 fu i20_7 i21_5 = some r
def srMerge_j3_E (l : List (List UInt8)) (js : List Nat) (a1 : Int) (a2 : Int) (a3 : Int) (i20_4 : Int) (i21_3 : Int) : S := ⟨[(0, kH 0), (1, kI a1), (2, kI a2), (3, kI a3), (4, .c (.s (.v (.func (.func 75) #[] #[])))), (18, kI (IntKind.i64.wrap (((shr64 (UInt64.ofInt (a1 + a3)) 1).toNat : Nat) : Int))), (19, kI ((IntKind.i64.wrap (((shr64 (UInt64.ofInt (a1 + a3)) 1).toNat : Nat) : Int)) + a2)), (20, kI i20_4), (21, kI i21_3)], [(1000000, kH 0), (1000001, kH 1)], [⟨.row, 22, 1, js.length, .p 1 js⟩, ⟨(.dp false), 22, 1, l.length, .d (.by 5) l⟩]⟩
abbrev srMerge_j3_P (n : Nat) (l : List (List UInt8)) (js : List Nat) (a1 : Int) (a2 : Int) (a3 : Int) (r : List Nat) : S → Prop := fun s => ∃ (i20_4 : Int), ∃ (i21_3 : Int), s = srMerge_j3_E l js a1 a2 a3 i20_4 i21_3 ∧ srMerge_j3 n (srMerge n) l js a1 a2 a3 i20_4 i21_3 = some r
def srMerge_R (l : List (List UInt8)) (js : List Nat) (r : List Nat) : S := ⟨[], [(1000000, kH 0), (1000001, kH 1)], [⟨.row, 22, 1, js.length, .p 1 r⟩, ⟨(.dp false), 22, 1, l.length, .d (.by 5) l⟩]⟩
def srMerge_ct (n : Nat) (r : List Nat) : CtM := rwC 75 22 (fun l js ns => match ns with | [a1, a2, a3] => srMerge n l js a1 a2 a3 = some r | _ => False) r
theorem srMerge_ok (n : Nat) : ∀ r : List Nat, FnMOk Try.prog 89 (srMerge_ct n r) := by
 induction n with
 | zero =>
  intro r
  refine fnokR (e' := 5) 220 (fun l js => srMerge_R l js r) Try.func89 (fun w bs l js ns h => ?_) (fun l js ns h => ?_) (fun l js => ⟨_, rfl⟩)
  ·cases ns with
   | nil => exact (show False from h).elim
   | cons a1 ns =>
    cases ns with
    | nil => exact (show False from h).elim
    | cons a2 ns =>
     cases ns with
     | nil => exact (show False from h).elim
     | cons a3 ns =>
      cases ns with
      | cons z ns => exact (show False from h).elim
      | nil =>
       cases h
  ·cases ns with
   | nil => exact (show False from h).elim
   | cons a1 ns =>
    cases ns with
    | nil => exact (show False from h).elim
    | cons a2 ns =>
     cases ns with
     | nil => exact (show False from h).elim
     | cons a3 ns =>
      cases ns with
      | cons z ns => exact (show False from h).elim
      | nil =>
       cases h
 | succ n ih =>
  intro r
  refine fnokR (e' := 5) 220 (fun l js => srMerge_R l js r) Try.func89 (fun w bs l js ns h => ?_) (fun l js ns h => ?_) (fun l js => ⟨_, rfl⟩)
  ·cases ns with
   | nil => exact (show False from h).elim
   | cons a1 ns =>
    cases ns with
    | nil => exact (show False from h).elim
    | cons a2 ns =>
     cases ns with
     | nil => exact (show False from h).elim
     | cons a3 ns =>
      cases ns with
      | cons z ns => exact (show False from h).elim
      | nil =>
       have h : srMerge (n + 1) l js a1 a2 a3 = some r := h
       unfold srMerge at h
       have hT := tabO_psa
       refine W_seq ?_
       obtain ⟨g1, h⟩ := gd_some h
       refine Vgs hT fN [] [] [0, 1] ⟨[(0, kH 0), (1, kI a1), (2, kI a2), (3, kI a3), (4, .c (.s (.v (.func (.func 75) #[] #[])))), (28, kB ((a2 - a1) == 1))], [(1000000, kH 0), (1000001, kH 1)], [⟨.row, 22, 1, js.length, .p 1 js⟩, ⟨(.dp false), 22, 1, l.length, .d (.by 5) l⟩]⟩ (aP g1 aN) ?_
       refine Vi (((a2 - a1) == 1)) (fun g73 => ?_) (fun g73 => ?_)
       ·replace h := bif_t h g73
        refine Vrs hT [0, 1] ⟨[(0, kH 0), (1, kI a1), (3, kI a3), (4, .c (.s (.v (.func (.func 75) #[] #[])))), (10, kI a2)], [(1000000, kH 0), (1000001, kH 1)], [⟨.row, 22, 1, js.length, .p 1 js⟩, ⟨(.dp false), 22, 1, l.length, .d (.by 5) l⟩]⟩ ?_
        refine Vrs hT [0, 1] ⟨[(0, kH 0), (1, kI a1), (4, .c (.s (.v (.func (.func 75) #[] #[])))), (10, kI a2), (11, kI a3)], [(1000000, kH 0), (1000001, kH 1)], [⟨.row, 22, 1, js.length, .p 1 js⟩, ⟨(.dp false), 22, 1, l.length, .d (.by 5) l⟩]⟩ ?_
        refine W_join (srMerge_j1_P n l js a1 r) ?_ ?_
        ·rintro _ ⟨i10_4, rfl, h⟩
         unfold srMerge_j1 at h
         refine W_seq ?_
         refine Vrs hT [0, 1] ⟨[(0, kH 0), (10, kI i10_4), (13, kI a1)], [(1000000, kH 0), (1000001, kH 1)], [⟨.row, 22, 1, js.length, .p 1 js⟩, ⟨(.dp false), 22, 1, l.length, .d (.by 5) l⟩]⟩ ?_
         refine W_block ?_
         refine Vc [] [0, 1] (srMerge_l1_E l js i10_4 js a1) (W_lp ((srMerge_l1_P n l js i10_4 r)) n ⟨_, _, rfl, h⟩ ?_)
         rintro fu_l1 _ ⟨dg1000000_5, i13_1, rfl, h⟩
         cases fu_l1 with
         | zero => cases h
         | succ fu_l1 =>
          refine ⟨fu_l1, rfl, ?_⟩
          rw [srMerge_l1] at h
          refine W_seq ?_
          obtain ⟨g2, h⟩ := gd_some h
          refine Vgs hT fN [] [] [0, 1] ⟨[(0, kH 0), (10, kI i10_4), (13, kI i13_1), (58, kB (decide (i13_1 < (i10_4 - 1))))], [(1000000, kH 0), (1000001, kH 1)], [⟨.row, 22, 1, js.length, .p 1 dg1000000_5⟩, ⟨(.dp false), 22, 1, l.length, .d (.by 5) l⟩]⟩ (aP g2 aN) ?_
          refine Vi ((decide (i13_1 < (i10_4 - 1)))) (fun g14 => ?_) (fun g14 => ?_)
          ·replace h := bif_t h g14
           refine Vc [] [0, 1] ⟨[(0, kH 0), (10, kI i10_4), (13, kI i13_1)], [(1000000, kH 0), (1000001, kH 1)], [⟨.row, 22, 1, js.length, .p 1 dg1000000_5⟩, ⟨(.dp false), 22, 1, l.length, .d (.by 5) l⟩]⟩ (W_skip ?_)
           refine W_seq ?_
           refine W_block ?_
           obtain ⟨g3, g4, g5, g6, g7, h⟩ := gd5 h
           obtain ⟨g8, g9, g10, g11, g12, h⟩ := gd5 h
           refine W_regG hT fN (by kernel_rfl) [] [0, 1, 2, 3, 4, 5, 6, 7, 8, 9, 10, 11, 12, 13, 14, 16] [[0, 1, 2, 3, 4, 5, 6, 7, 8, 9, 10, 11, 12, 13, 14], [0, 1, 2, 3, 4, 5, 6, 7, 8, 9, 10, 11, 12, 13, 14, 15, 16], [0, 1, 2, 3, 4, 5, 6, 7, 8, 9, 10, 11, 12, 13, 14, 15, 16, 17]] [⟨[(0, kH 0), (10, kI i10_4), (13, kI i13_1), (61, kH 0), (62, kI i13_1), (63, kH 0), (64, kI i13_1), (65, kI (i13_1 + 1)), (66, kH 0), (67, kI i13_1), (68, kI (i13_1 + 1)), (69, kP 0 ((i13_1 + 1).toNat)), (70, .c (.gi 1 (dg1000000_5.getD ((i13_1 + 1).toNat) 0))), (71, kH 0), (72, kI i13_1), (73, kP 0 i13_1.toNat), (74, .c (.gi 1 (dg1000000_5.getD i13_1.toNat 0))), (75, kP 0 i13_1.toNat)], [(1000000, kH 0), (1000001, kH 1)], [⟨.row, 22, 1, js.length, .p 1 dg1000000_5⟩, ⟨(.dp false), 22, 1, l.length, .d (.by 5) l⟩]⟩, ⟨[(0, kH 0), (10, kI i10_4), (13, kI i13_1), (63, kH 0), (64, kI i13_1), (65, kI (i13_1 + 1)), (74, .c (.gi 1 (dg1000000_5.getD i13_1.toNat 0))), (76, kP 0 ((i13_1 + 1).toNat))], [(1000000, kH 0), (1000001, kH 1)], [⟨.row, 22, 1, js.length, .p 1 (dg1000000_5.set i13_1.toNat (dg1000000_5.getD ((i13_1 + 1).toNat) 0))⟩, ⟨(.dp false), 22, 1, l.length, .d (.by 5) l⟩]⟩, ⟨[(0, kH 0), (10, kI i10_4), (13, kI i13_1)], [(1000000, kH 0), (1000001, kH 1)], [⟨.row, 22, 1, js.length, .p 1 ((dg1000000_5.set i13_1.toNat (dg1000000_5.getD ((i13_1 + 1).toNat) 0)).set ((i13_1 + 1).toNat) (dg1000000_5.getD i13_1.toNat 0))⟩, ⟨(.dp false), 22, 1, l.length, .d (.by 5) l⟩]⟩] [0, 1, 2, 3, 4, 5, 6, 7, 8, 9, 10, 11, 12, 13, 14] [⟨0, 15, 1, [16], [], [0, 10, 13, 63, 64, 65, 74, 76], [0, 1]⟩, ⟨1, 17, 2, [], [], [0, 10, 13], [0, 1]⟩] [(0, 0), (0, 1), (0, 2), (0, 3), (0, 4), (0, 5), (0, 6), (0, 7), (0, 8), (0, 9), (0, 10), (0, 11), (0, 12), (0, 13), (0, 14), (1, 2), (1, 3), (1, 4), (1, 16)] 2 [0, 10, 13, 61, 62, 63, 64, 65, 66, 67, 68, 69, 70, 71, 72, 73, 74, 75] [0, 1] [] [0, 10, 13] [0, 1] (s' := ⟨[(0, kH 0), (10, kI i10_4), (13, kI i13_1)], [(1000000, kH 0), (1000001, kH 1)], [⟨.row, 22, 1, js.length, .p 1 ((dg1000000_5.set i13_1.toNat (dg1000000_5.getD ((i13_1 + 1).toNat) 0)).set ((i13_1 + 1).toNat) (dg1000000_5.getD i13_1.toNat 0))⟩, ⟨(.dp false), 22, 1, l.length, .d (.by 5) l⟩]⟩) (by kernel_rfl) ⟨_, (by kernel_rfl), (allP_cons.2 ⟨g3, (allP_cons.2 ⟨g4, (allP_cons.2 ⟨g5, (allP_cons.2 ⟨g6, (allP_cons.2 ⟨g7, (allP_cons.2 ⟨g8, (allP_cons.2 ⟨g9, (allP_cons.2 ⟨g10, allP_nil⟩)⟩)⟩)⟩)⟩)⟩)⟩)⟩)⟩ (AllE.cons ⟨_, (by kernel_rfl), (allP_cons.2 ⟨g11, (allP_cons.2 ⟨g12, allP_nil⟩)⟩)⟩ (AllE.cons ⟨_, (by kernel_rfl), allP_nil⟩ AllE.nil)) (AllR.cons ⟨_, (by kernel_rfl), allP_nil⟩ (AllR.cons ⟨_, (by kernel_rfl), allP_nil⟩ (AllR.cons ⟨_, (by kernel_rfl), allP_nil⟩ (AllR.cons ⟨_, (by kernel_rfl), allP_nil⟩ (AllR.cons ⟨_, (by kernel_rfl), (allP_cons.2 ⟨g3, allP_nil⟩)⟩ (AllR.cons ⟨_, (by kernel_rfl), allP_nil⟩ (AllR.cons ⟨_, (by kernel_rfl), allP_nil⟩ (AllR.cons ⟨_, (by kernel_rfl), (allP_cons.2 ⟨g4, allP_nil⟩)⟩ (AllR.cons ⟨_, (by kernel_rfl), (allP_cons.2 ⟨g5, (allP_cons.2 ⟨g6, allP_nil⟩)⟩)⟩ (AllR.cons ⟨_, (by kernel_rfl), allP_nil⟩ (AllR.cons ⟨_, (by kernel_rfl), allP_nil⟩ (AllR.cons ⟨_, (by kernel_rfl), allP_nil⟩ (AllR.cons ⟨_, (by kernel_rfl), (allP_cons.2 ⟨g7, (allP_cons.2 ⟨g8, allP_nil⟩)⟩)⟩ (AllR.cons ⟨_, (by kernel_rfl), allP_nil⟩ (AllR.cons ⟨_, (by kernel_rfl), (allP_cons.2 ⟨g9, (allP_cons.2 ⟨g10, allP_nil⟩)⟩)⟩ (AllR.cons ⟨_, (by kernel_rfl), allP_nil⟩ (AllR.cons ⟨_, (by kernel_rfl), allP_nil⟩ (AllR.cons ⟨_, (by kernel_rfl), (allP_cons.2 ⟨g3, allP_nil⟩)⟩ (AllR.cons ⟨_, (by kernel_rfl), (allP_cons.2 ⟨g11, (allP_cons.2 ⟨g12, allP_nil⟩)⟩)⟩ AllR.nil))))))))))))))))))) (by kernel_rfl) ?_
           obtain ⟨g13, h⟩ := gd_some h
           refine Vg hT fN [] [] [0, 1] (srMerge_l1_E l js i10_4 ((dg1000000_5.set i13_1.toNat (dg1000000_5.getD ((i13_1 + 1).toNat) 0)).set ((i13_1 + 1).toNat) (dg1000000_5.getD i13_1.toNat 0)) (i13_1 + 1)) (aP g13 aN) ?_
           exact ⟨_, _, rfl, h⟩
          ·replace h := bif_f h g14
           refine Vc [] [0, 1] ⟨[], [(1000000, kH 0), (1000001, kH 1)], [⟨.row, 22, 1, js.length, .p 1 dg1000000_5⟩, ⟨(.dp false), 22, 1, l.length, .d (.by 5) l⟩]⟩ (W_exit ?_)
           refine Vc [] [0, 1] (srMerge_R l js dg1000000_5) (W_ret ?_)
           exact ⟨.inl rfl, by cases h; rfl⟩
        ·refine W_block ?_
         refine Vc [] [0, 1] (srMerge_l2_E l js a1 a2 a3) (W_lp ((srMerge_l2_P n l js a1 r)) n ⟨_, _, rfl, h⟩ ?_)
         rintro fu_l2 _ ⟨i10_5, i11_3, rfl, h⟩
         cases fu_l2 with
         | zero => cases h
         | succ fu_l2 =>
          refine ⟨fu_l2, rfl, ?_⟩
          rw [srMerge_l2] at h
          refine W_seq ?_
          refine Vrs hT [0, 1] ⟨[(0, kH 0), (1, kI a1), (4, .c (.s (.v (.func (.func 75) #[] #[])))), (10, kI i10_5), (11, kI i11_3), (33, kB (decide (i10_5 < i11_3)))], [(1000000, kH 0), (1000001, kH 1)], [⟨.row, 22, 1, js.length, .p 1 js⟩, ⟨(.dp false), 22, 1, l.length, .d (.by 5) l⟩]⟩ ?_
          refine Vi ((decide (i10_5 < i11_3))) (fun g23 => ?_) (fun g23 => ?_)
          ·replace h := bif_t h g23
           refine W_skip ?_
           refine W_block ?_
           obtain ⟨g15, g16, h⟩ := gd2 h
           refine Vgs hT fN [] [] [0, 1] ⟨[(0, kH 0), (1, kI a1), (4, .c (.s (.v (.func (.func 75) #[] #[])))), (10, kI i10_5), (11, kI i11_3), (12, kI (IntKind.i64.wrap (((shr64 (UInt64.ofInt (i10_5 + i11_3)) 1).toNat : Nat) : Int)))], [(1000000, kH 0), (1000001, kH 1)], [⟨.row, 22, 1, js.length, .p 1 js⟩, ⟨(.dp false), 22, 1, l.length, .d (.by 5) l⟩]⟩ (aP g15 (aP g16 aN)) ?_
           refine W_seq ?_
           obtain ⟨g17, g18, g19, g20, h⟩ := gd4 h
           refine W_regG hT (fT 9 cmp_h fN) (by kernel_rfl) [] [0, 1, 2, 3, 4, 5, 6, 7, 8, 10] [[0, 1, 2, 3, 4, 5, 6, 7, 8], [0, 1, 2, 3, 4, 5, 6, 7, 8, 9, 10]] [⟨[(0, kH 0), (1, kI a1), (4, .c (.s (.v (.func (.func 75) #[] #[])))), (10, kI i10_5), (11, kI i11_3), (12, kI (IntKind.i64.wrap (((shr64 (UInt64.ofInt (i10_5 + i11_3)) 1).toNat : Nat) : Int))), (40, .c (.s (.v (.func (.func 75) #[] #[])))), (41, kH 0), (42, kI (IntKind.i64.wrap (((shr64 (UInt64.ofInt (i10_5 + i11_3)) 1).toNat : Nat) : Int))), (43, kP 0 ((IntKind.i64.wrap (((shr64 (UInt64.ofInt (i10_5 + i11_3)) 1).toNat : Nat) : Int)).toNat)), (44, .c (.gi 1 (js.getD ((IntKind.i64.wrap (((shr64 (UInt64.ofInt (i10_5 + i11_3)) 1).toNat : Nat) : Int)).toNat) 0))), (45, kH 0), (46, kI a1), (47, kP 0 a1.toNat), (48, .c (.gi 1 (js.getD a1.toNat 0)))], [(1000000, kH 0), (1000001, kH 1)], [⟨.row, 22, 1, js.length, .p 1 js⟩, ⟨(.dp false), 22, 1, l.length, .d (.by 5) l⟩]⟩, ⟨[(0, kH 0), (1, kI a1), (4, .c (.s (.v (.func (.func 75) #[] #[])))), (10, kI i10_5), (11, kI i11_3), (12, kI (IntKind.i64.wrap (((shr64 (UInt64.ofInt (i10_5 + i11_3)) 1).toNat : Nat) : Int))), (49, kI (Lib.compareBytes (l.getD (js.getD ((IntKind.i64.wrap (((shr64 (UInt64.ofInt (i10_5 + i11_3)) 1).toNat : Nat) : Int)).toNat) 0) []) (l.getD (js.getD a1.toNat 0) []))), (50, kB (decide ((Lib.compareBytes (l.getD (js.getD ((IntKind.i64.wrap (((shr64 (UInt64.ofInt (i10_5 + i11_3)) 1).toNat : Nat) : Int)).toNat) 0) []) (l.getD (js.getD a1.toNat 0) [])) < (0 : Int))))], [(1000000, kH 0), (1000001, kH 1)], [⟨.row, 22, 1, js.length, .p 1 js⟩, ⟨(.dp false), 22, 1, l.length, .d (.by 5) l⟩]⟩] [0, 1, 2, 3, 4, 5, 6, 7, 8] [⟨0, 9, 1, [10], [], [0, 1, 4, 10, 11, 12, 49, 50], [0, 1]⟩] [(0, 0), (0, 1), (0, 2), (0, 3), (0, 4), (0, 5), (0, 6), (0, 7), (0, 8), (1, 10)] 1 [0, 1, 4, 10, 11, 12, 40, 41, 42, 43, 44, 45, 46, 47, 48] [0, 1] [] [0, 1, 4, 10, 11, 12, 50] [0, 1] (s' := ⟨[(0, kH 0), (1, kI a1), (4, .c (.s (.v (.func (.func 75) #[] #[])))), (10, kI i10_5), (11, kI i11_3), (12, kI (IntKind.i64.wrap (((shr64 (UInt64.ofInt (i10_5 + i11_3)) 1).toNat : Nat) : Int))), (50, kB (decide ((Lib.compareBytes (l.getD (js.getD ((IntKind.i64.wrap (((shr64 (UInt64.ofInt (i10_5 + i11_3)) 1).toNat : Nat) : Int)).toNat) 0) []) (l.getD (js.getD a1.toNat 0) [])) < (0 : Int))))], [(1000000, kH 0), (1000001, kH 1)], [⟨.row, 22, 1, js.length, .p 1 js⟩, ⟨(.dp false), 22, 1, l.length, .d (.by 5) l⟩]⟩) (by kernel_rfl) ⟨_, (by kernel_rfl), (allP_cons.2 ⟨g17, (allP_cons.2 ⟨g18, (allP_cons.2 ⟨g19, (allP_cons.2 ⟨g20, allP_nil⟩)⟩)⟩)⟩)⟩ (AllE.cons ⟨_, (by kernel_rfl), allP_nil⟩ AllE.nil) (AllR.cons ⟨_, (by kernel_rfl), allP_nil⟩ (AllR.cons ⟨_, (by kernel_rfl), allP_nil⟩ (AllR.cons ⟨_, (by kernel_rfl), allP_nil⟩ (AllR.cons ⟨_, (by kernel_rfl), (allP_cons.2 ⟨g17, (allP_cons.2 ⟨g18, allP_nil⟩)⟩)⟩ (AllR.cons ⟨_, (by kernel_rfl), allP_nil⟩ (AllR.cons ⟨_, (by kernel_rfl), allP_nil⟩ (AllR.cons ⟨_, (by kernel_rfl), allP_nil⟩ (AllR.cons ⟨_, (by kernel_rfl), (allP_cons.2 ⟨g19, (allP_cons.2 ⟨g20, allP_nil⟩)⟩)⟩ (AllR.cons ⟨_, (by kernel_rfl), allP_nil⟩ (AllR.cons ⟨_, (by kernel_rfl), allP_nil⟩ AllR.nil)))))))))) (by kernel_rfl) ?_
           refine Vi ((decide ((Lib.compareBytes (l.getD (js.getD ((IntKind.i64.wrap (((shr64 (UInt64.ofInt (i10_5 + i11_3)) 1).toNat : Nat) : Int)).toNat) 0) []) (l.getD (js.getD a1.toNat 0) [])) < (0 : Int)))) (fun g22 => ?_) (fun g22 => ?_)
           ·replace h := bif_t h g22
            obtain ⟨g21, h⟩ := gd_some h
            refine Vg hT fN [] [] [0, 1] (srMerge_l2_E l js a1 ((IntKind.i64.wrap (((shr64 (UInt64.ofInt (i10_5 + i11_3)) 1).toNat : Nat) : Int)) + 1) i11_3) (aP g21 aN) ?_
            exact ⟨_, _, rfl, h⟩
           ·replace h := bif_f h g22
            refine Vr hT [0, 1] (srMerge_l2_E l js a1 i10_5 (IntKind.i64.wrap (((shr64 (UInt64.ofInt (i10_5 + i11_3)) 1).toNat : Nat) : Int))) ?_
            exact ⟨_, _, rfl, h⟩
          ·replace h := bif_f h g23
           refine Vc [] [0, 1] (srMerge_j1_E l js a1 i10_5) (W_exit ?_)
           exact ⟨_, rfl, h⟩
       ·replace h := bif_f h g73
        refine W_skip ?_
        refine W_seq ?_
        obtain ⟨g24, h⟩ := gd_some h
        refine Vgs hT fN [] [] [0, 1] ⟨[(0, kH 0), (1, kI a1), (2, kI a2), (3, kI a3), (4, .c (.s (.v (.func (.func 75) #[] #[])))), (80, kB ((a3 - a2) == 1))], [(1000000, kH 0), (1000001, kH 1)], [⟨.row, 22, 1, js.length, .p 1 js⟩, ⟨(.dp false), 22, 1, l.length, .d (.by 5) l⟩]⟩ (aP g24 aN) ?_
        refine Vi (((a3 - a2) == 1)) (fun g72 => ?_) (fun g72 => ?_)
        ·replace h := bif_t h g72
         refine Vrs hT [0, 1] ⟨[(0, kH 0), (2, kI a2), (4, .c (.s (.v (.func (.func 75) #[] #[])))), (14, kI a1)], [(1000000, kH 0), (1000001, kH 1)], [⟨.row, 22, 1, js.length, .p 1 js⟩, ⟨(.dp false), 22, 1, l.length, .d (.by 5) l⟩]⟩ ?_
         refine Vrs hT [0, 1] ⟨[(0, kH 0), (2, kI a2), (4, .c (.s (.v (.func (.func 75) #[] #[])))), (14, kI a1), (15, kI a2)], [(1000000, kH 0), (1000001, kH 1)], [⟨.row, 22, 1, js.length, .p 1 js⟩, ⟨(.dp false), 22, 1, l.length, .d (.by 5) l⟩]⟩ ?_
         refine W_join (srMerge_j2_P n l js a2 r) ?_ ?_
         ·rintro _ ⟨i14_4, rfl, h⟩
          unfold srMerge_j2 at h
          refine W_seq ?_
          refine Vrs hT [0, 1] ⟨[(0, kH 0), (14, kI i14_4), (17, kI a2)], [(1000000, kH 0), (1000001, kH 1)], [⟨.row, 22, 1, js.length, .p 1 js⟩, ⟨(.dp false), 22, 1, l.length, .d (.by 5) l⟩]⟩ ?_
          refine W_block ?_
          refine Vc [] [0, 1] (srMerge_l3_E l js i14_4 js a2) (W_lp ((srMerge_l3_P n l js i14_4 r)) n ⟨_, _, rfl, h⟩ ?_)
          rintro fu_l3 _ ⟨dg1000000_6, i17_1, rfl, h⟩
          cases fu_l3 with
          | zero => cases h
          | succ fu_l3 =>
           refine ⟨fu_l3, rfl, ?_⟩
           rw [srMerge_l3] at h
           refine W_seq ?_
           refine Vrs hT [0, 1] ⟨[(0, kH 0), (14, kI i14_4), (17, kI i17_1), (110, kB (decide (i14_4 < i17_1)))], [(1000000, kH 0), (1000001, kH 1)], [⟨.row, 22, 1, js.length, .p 1 dg1000000_6⟩, ⟨(.dp false), 22, 1, l.length, .d (.by 5) l⟩]⟩ ?_
           refine Vi ((decide (i14_4 < i17_1))) (fun g36 => ?_) (fun g36 => ?_)
           ·replace h := bif_t h g36
            refine Vc [] [0, 1] ⟨[(0, kH 0), (14, kI i14_4), (17, kI i17_1)], [(1000000, kH 0), (1000001, kH 1)], [⟨.row, 22, 1, js.length, .p 1 dg1000000_6⟩, ⟨(.dp false), 22, 1, l.length, .d (.by 5) l⟩]⟩ (W_skip ?_)
            refine W_seq ?_
            refine W_block ?_
            obtain ⟨g25, g26, g27, g28, g29, h⟩ := gd5 h
            obtain ⟨g30, g31, g32, g33, g34, h⟩ := gd5 h
            refine W_regG hT fN (by kernel_rfl) [] [0, 1, 2, 3, 4, 5, 6, 7, 8, 9, 10, 11, 12, 13, 14, 16] [[0, 1, 2, 3, 4, 5, 6, 7, 8, 9, 10, 11, 12, 13, 14], [0, 1, 2, 3, 4, 5, 6, 7, 8, 9, 10, 11, 12, 13, 14, 15, 16], [0, 1, 2, 3, 4, 5, 6, 7, 8, 9, 10, 11, 12, 13, 14, 15, 16, 17]] [⟨[(0, kH 0), (14, kI i14_4), (17, kI i17_1), (113, kH 0), (114, kI i17_1), (115, kH 0), (116, kI i17_1), (117, kI (i17_1 - 1)), (118, kH 0), (119, kI i17_1), (120, kI (i17_1 - 1)), (121, kP 0 ((i17_1 - 1).toNat)), (122, .c (.gi 1 (dg1000000_6.getD ((i17_1 - 1).toNat) 0))), (123, kH 0), (124, kI i17_1), (125, kP 0 i17_1.toNat), (126, .c (.gi 1 (dg1000000_6.getD i17_1.toNat 0))), (127, kP 0 i17_1.toNat)], [(1000000, kH 0), (1000001, kH 1)], [⟨.row, 22, 1, js.length, .p 1 dg1000000_6⟩, ⟨(.dp false), 22, 1, l.length, .d (.by 5) l⟩]⟩, ⟨[(0, kH 0), (14, kI i14_4), (17, kI i17_1), (115, kH 0), (116, kI i17_1), (117, kI (i17_1 - 1)), (126, .c (.gi 1 (dg1000000_6.getD i17_1.toNat 0))), (128, kP 0 ((i17_1 - 1).toNat))], [(1000000, kH 0), (1000001, kH 1)], [⟨.row, 22, 1, js.length, .p 1 (dg1000000_6.set i17_1.toNat (dg1000000_6.getD ((i17_1 - 1).toNat) 0))⟩, ⟨(.dp false), 22, 1, l.length, .d (.by 5) l⟩]⟩, ⟨[(0, kH 0), (14, kI i14_4), (17, kI i17_1)], [(1000000, kH 0), (1000001, kH 1)], [⟨.row, 22, 1, js.length, .p 1 ((dg1000000_6.set i17_1.toNat (dg1000000_6.getD ((i17_1 - 1).toNat) 0)).set ((i17_1 - 1).toNat) (dg1000000_6.getD i17_1.toNat 0))⟩, ⟨(.dp false), 22, 1, l.length, .d (.by 5) l⟩]⟩] [0, 1, 2, 3, 4, 5, 6, 7, 8, 9, 10, 11, 12, 13, 14] [⟨0, 15, 1, [16], [], [0, 14, 17, 115, 116, 117, 126, 128], [0, 1]⟩, ⟨1, 17, 2, [], [], [0, 14, 17], [0, 1]⟩] [(0, 0), (0, 1), (0, 2), (0, 3), (0, 4), (0, 5), (0, 6), (0, 7), (0, 8), (0, 9), (0, 10), (0, 11), (0, 12), (0, 13), (0, 14), (1, 2), (1, 3), (1, 4), (1, 16)] 2 [0, 14, 17, 113, 114, 115, 116, 117, 118, 119, 120, 121, 122, 123, 124, 125, 126, 127] [0, 1] [] [0, 14, 17] [0, 1] (s' := ⟨[(0, kH 0), (14, kI i14_4), (17, kI i17_1)], [(1000000, kH 0), (1000001, kH 1)], [⟨.row, 22, 1, js.length, .p 1 ((dg1000000_6.set i17_1.toNat (dg1000000_6.getD ((i17_1 - 1).toNat) 0)).set ((i17_1 - 1).toNat) (dg1000000_6.getD i17_1.toNat 0))⟩, ⟨(.dp false), 22, 1, l.length, .d (.by 5) l⟩]⟩) (by kernel_rfl) ⟨_, (by kernel_rfl), (allP_cons.2 ⟨g25, (allP_cons.2 ⟨g26, (allP_cons.2 ⟨g27, (allP_cons.2 ⟨g28, (allP_cons.2 ⟨g29, (allP_cons.2 ⟨g30, (allP_cons.2 ⟨g31, (allP_cons.2 ⟨g32, allP_nil⟩)⟩)⟩)⟩)⟩)⟩)⟩)⟩)⟩ (AllE.cons ⟨_, (by kernel_rfl), (allP_cons.2 ⟨g33, (allP_cons.2 ⟨g34, allP_nil⟩)⟩)⟩ (AllE.cons ⟨_, (by kernel_rfl), allP_nil⟩ AllE.nil)) (AllR.cons ⟨_, (by kernel_rfl), allP_nil⟩ (AllR.cons ⟨_, (by kernel_rfl), allP_nil⟩ (AllR.cons ⟨_, (by kernel_rfl), allP_nil⟩ (AllR.cons ⟨_, (by kernel_rfl), allP_nil⟩ (AllR.cons ⟨_, (by kernel_rfl), (allP_cons.2 ⟨g25, allP_nil⟩)⟩ (AllR.cons ⟨_, (by kernel_rfl), allP_nil⟩ (AllR.cons ⟨_, (by kernel_rfl), allP_nil⟩ (AllR.cons ⟨_, (by kernel_rfl), (allP_cons.2 ⟨g26, allP_nil⟩)⟩ (AllR.cons ⟨_, (by kernel_rfl), (allP_cons.2 ⟨g27, (allP_cons.2 ⟨g28, allP_nil⟩)⟩)⟩ (AllR.cons ⟨_, (by kernel_rfl), allP_nil⟩ (AllR.cons ⟨_, (by kernel_rfl), allP_nil⟩ (AllR.cons ⟨_, (by kernel_rfl), allP_nil⟩ (AllR.cons ⟨_, (by kernel_rfl), (allP_cons.2 ⟨g29, (allP_cons.2 ⟨g30, allP_nil⟩)⟩)⟩ (AllR.cons ⟨_, (by kernel_rfl), allP_nil⟩ (AllR.cons ⟨_, (by kernel_rfl), (allP_cons.2 ⟨g31, (allP_cons.2 ⟨g32, allP_nil⟩)⟩)⟩ (AllR.cons ⟨_, (by kernel_rfl), allP_nil⟩ (AllR.cons ⟨_, (by kernel_rfl), allP_nil⟩ (AllR.cons ⟨_, (by kernel_rfl), (allP_cons.2 ⟨g25, allP_nil⟩)⟩ (AllR.cons ⟨_, (by kernel_rfl), (allP_cons.2 ⟨g33, (allP_cons.2 ⟨g34, allP_nil⟩)⟩)⟩ AllR.nil))))))))))))))))))) (by kernel_rfl) ?_
            obtain ⟨g35, h⟩ := gd_some h
            refine Vg hT fN [] [] [0, 1] (srMerge_l3_E l js i14_4 ((dg1000000_6.set i17_1.toNat (dg1000000_6.getD ((i17_1 - 1).toNat) 0)).set ((i17_1 - 1).toNat) (dg1000000_6.getD i17_1.toNat 0)) (i17_1 - 1)) (aP g35 aN) ?_
            exact ⟨_, _, rfl, h⟩
           ·replace h := bif_f h g36
            refine Vc [] [0, 1] ⟨[], [(1000000, kH 0), (1000001, kH 1)], [⟨.row, 22, 1, js.length, .p 1 dg1000000_6⟩, ⟨(.dp false), 22, 1, l.length, .d (.by 5) l⟩]⟩ (W_exit ?_)
            refine Vc [] [0, 1] (srMerge_R l js dg1000000_6) (W_ret ?_)
            exact ⟨.inl rfl, by cases h; rfl⟩
         ·refine W_block ?_
          refine Vc [] [0, 1] (srMerge_l4_E l js a2 a1 a2) (W_lp ((srMerge_l4_P n l js a2 r)) n ⟨_, _, rfl, h⟩ ?_)
          rintro fu_l4 _ ⟨i14_5, i15_3, rfl, h⟩
          cases fu_l4 with
          | zero => cases h
          | succ fu_l4 =>
           refine ⟨fu_l4, rfl, ?_⟩
           rw [srMerge_l4] at h
           refine W_seq ?_
           refine Vrs hT [0, 1] ⟨[(0, kH 0), (2, kI a2), (4, .c (.s (.v (.func (.func 75) #[] #[])))), (14, kI i14_5), (15, kI i15_3), (85, kB (decide (i14_5 < i15_3)))], [(1000000, kH 0), (1000001, kH 1)], [⟨.row, 22, 1, js.length, .p 1 js⟩, ⟨(.dp false), 22, 1, l.length, .d (.by 5) l⟩]⟩ ?_
           refine Vi ((decide (i14_5 < i15_3))) (fun g45 => ?_) (fun g45 => ?_)
           ·replace h := bif_t h g45
            refine W_skip ?_
            refine W_block ?_
            obtain ⟨g37, g38, h⟩ := gd2 h
            refine Vgs hT fN [] [] [0, 1] ⟨[(0, kH 0), (2, kI a2), (4, .c (.s (.v (.func (.func 75) #[] #[])))), (14, kI i14_5), (15, kI i15_3), (16, kI (IntKind.i64.wrap (((shr64 (UInt64.ofInt (i14_5 + i15_3)) 1).toNat : Nat) : Int)))], [(1000000, kH 0), (1000001, kH 1)], [⟨.row, 22, 1, js.length, .p 1 js⟩, ⟨(.dp false), 22, 1, l.length, .d (.by 5) l⟩]⟩ (aP g37 (aP g38 aN)) ?_
            refine W_seq ?_
            obtain ⟨g39, g40, g41, g42, h⟩ := gd4 h
            refine W_regG hT (fT 9 cmp_h fN) (by kernel_rfl) [] [0, 1, 2, 3, 4, 5, 6, 7, 8, 10, 11] [[0, 1, 2, 3, 4, 5, 6, 7, 8], [0, 1, 2, 3, 4, 5, 6, 7, 8, 9, 10, 11]] [⟨[(0, kH 0), (2, kI a2), (4, .c (.s (.v (.func (.func 75) #[] #[])))), (14, kI i14_5), (15, kI i15_3), (16, kI (IntKind.i64.wrap (((shr64 (UInt64.ofInt (i14_5 + i15_3)) 1).toNat : Nat) : Int))), (92, .c (.s (.v (.func (.func 75) #[] #[])))), (93, kH 0), (94, kI a2), (95, kP 0 a2.toNat), (96, .c (.gi 1 (js.getD a2.toNat 0))), (97, kH 0), (98, kI (IntKind.i64.wrap (((shr64 (UInt64.ofInt (i14_5 + i15_3)) 1).toNat : Nat) : Int))), (99, kP 0 ((IntKind.i64.wrap (((shr64 (UInt64.ofInt (i14_5 + i15_3)) 1).toNat : Nat) : Int)).toNat)), (100, .c (.gi 1 (js.getD ((IntKind.i64.wrap (((shr64 (UInt64.ofInt (i14_5 + i15_3)) 1).toNat : Nat) : Int)).toNat) 0)))], [(1000000, kH 0), (1000001, kH 1)], [⟨.row, 22, 1, js.length, .p 1 js⟩, ⟨(.dp false), 22, 1, l.length, .d (.by 5) l⟩]⟩, ⟨[(0, kH 0), (2, kI a2), (4, .c (.s (.v (.func (.func 75) #[] #[])))), (14, kI i14_5), (15, kI i15_3), (16, kI (IntKind.i64.wrap (((shr64 (UInt64.ofInt (i14_5 + i15_3)) 1).toNat : Nat) : Int))), (101, kI (Lib.compareBytes (l.getD (js.getD a2.toNat 0) []) (l.getD (js.getD ((IntKind.i64.wrap (((shr64 (UInt64.ofInt (i14_5 + i15_3)) 1).toNat : Nat) : Int)).toNat) 0) []))), (102, kB (decide ((Lib.compareBytes (l.getD (js.getD a2.toNat 0) []) (l.getD (js.getD ((IntKind.i64.wrap (((shr64 (UInt64.ofInt (i14_5 + i15_3)) 1).toNat : Nat) : Int)).toNat) 0) [])) < (0 : Int)))), (103, kB (!(decide ((Lib.compareBytes (l.getD (js.getD a2.toNat 0) []) (l.getD (js.getD ((IntKind.i64.wrap (((shr64 (UInt64.ofInt (i14_5 + i15_3)) 1).toNat : Nat) : Int)).toNat) 0) [])) < (0 : Int)))))], [(1000000, kH 0), (1000001, kH 1)], [⟨.row, 22, 1, js.length, .p 1 js⟩, ⟨(.dp false), 22, 1, l.length, .d (.by 5) l⟩]⟩] [0, 1, 2, 3, 4, 5, 6, 7, 8] [⟨0, 9, 1, [10, 11], [], [0, 2, 4, 14, 15, 16, 101, 102, 103], [0, 1]⟩] [(0, 0), (0, 1), (0, 2), (0, 3), (0, 4), (0, 5), (0, 6), (0, 7), (0, 8), (1, 10), (1, 11)] 1 [0, 2, 4, 14, 15, 16, 92, 93, 94, 95, 96, 97, 98, 99, 100] [0, 1] [] [0, 2, 4, 14, 15, 16, 103] [0, 1] (s' := ⟨[(0, kH 0), (2, kI a2), (4, .c (.s (.v (.func (.func 75) #[] #[])))), (14, kI i14_5), (15, kI i15_3), (16, kI (IntKind.i64.wrap (((shr64 (UInt64.ofInt (i14_5 + i15_3)) 1).toNat : Nat) : Int))), (103, kB (!(decide ((Lib.compareBytes (l.getD (js.getD a2.toNat 0) []) (l.getD (js.getD ((IntKind.i64.wrap (((shr64 (UInt64.ofInt (i14_5 + i15_3)) 1).toNat : Nat) : Int)).toNat) 0) [])) < (0 : Int)))))], [(1000000, kH 0), (1000001, kH 1)], [⟨.row, 22, 1, js.length, .p 1 js⟩, ⟨(.dp false), 22, 1, l.length, .d (.by 5) l⟩]⟩) (by kernel_rfl) ⟨_, (by kernel_rfl), (allP_cons.2 ⟨g39, (allP_cons.2 ⟨g40, (allP_cons.2 ⟨g41, (allP_cons.2 ⟨g42, allP_nil⟩)⟩)⟩)⟩)⟩ (AllE.cons ⟨_, (by kernel_rfl), allP_nil⟩ AllE.nil) (AllR.cons ⟨_, (by kernel_rfl), allP_nil⟩ (AllR.cons ⟨_, (by kernel_rfl), allP_nil⟩ (AllR.cons ⟨_, (by kernel_rfl), allP_nil⟩ (AllR.cons ⟨_, (by kernel_rfl), (allP_cons.2 ⟨g39, (allP_cons.2 ⟨g40, allP_nil⟩)⟩)⟩ (AllR.cons ⟨_, (by kernel_rfl), allP_nil⟩ (AllR.cons ⟨_, (by kernel_rfl), allP_nil⟩ (AllR.cons ⟨_, (by kernel_rfl), allP_nil⟩ (AllR.cons ⟨_, (by kernel_rfl), (allP_cons.2 ⟨g41, (allP_cons.2 ⟨g42, allP_nil⟩)⟩)⟩ (AllR.cons ⟨_, (by kernel_rfl), allP_nil⟩ (AllR.cons ⟨_, (by kernel_rfl), allP_nil⟩ (AllR.cons ⟨_, (by kernel_rfl), allP_nil⟩ AllR.nil))))))))))) (by kernel_rfl) ?_
            refine Vi ((!(decide ((Lib.compareBytes (l.getD (js.getD a2.toNat 0) []) (l.getD (js.getD ((IntKind.i64.wrap (((shr64 (UInt64.ofInt (i14_5 + i15_3)) 1).toNat : Nat) : Int)).toNat) 0) [])) < (0 : Int))))) (fun g44 => ?_) (fun g44 => ?_)
            ·replace h := bif_t h g44
             obtain ⟨g43, h⟩ := gd_some h
             refine Vg hT fN [] [] [0, 1] (srMerge_l4_E l js a2 ((IntKind.i64.wrap (((shr64 (UInt64.ofInt (i14_5 + i15_3)) 1).toNat : Nat) : Int)) + 1) i15_3) (aP g43 aN) ?_
             exact ⟨_, _, rfl, h⟩
            ·replace h := bif_f h g44
             refine Vr hT [0, 1] (srMerge_l4_E l js a2 i14_5 (IntKind.i64.wrap (((shr64 (UInt64.ofInt (i14_5 + i15_3)) 1).toNat : Nat) : Int))) ?_
             exact ⟨_, _, rfl, h⟩
           ·replace h := bif_f h g45
            refine Vc [] [0, 1] (srMerge_j2_E l js a2 i14_5) (W_exit ?_)
            exact ⟨_, rfl, h⟩
        ·replace h := bif_f h g72
         refine W_skip ?_
         obtain ⟨g46, g47, h⟩ := gd2 h
         refine Vgs hT fN [] [] [0, 1] ⟨[(0, kH 0), (1, kI a1), (2, kI a2), (3, kI a3), (4, .c (.s (.v (.func (.func 75) #[] #[])))), (18, kI (IntKind.i64.wrap (((shr64 (UInt64.ofInt (a1 + a3)) 1).toNat : Nat) : Int)))], [(1000000, kH 0), (1000001, kH 1)], [⟨.row, 22, 1, js.length, .p 1 js⟩, ⟨(.dp false), 22, 1, l.length, .d (.by 5) l⟩]⟩ (aP g46 (aP g47 aN)) ?_
         obtain ⟨g48, h⟩ := gd_some h
         refine Vgs hT fN [] [] [0, 1] ⟨[(0, kH 0), (1, kI a1), (2, kI a2), (3, kI a3), (4, .c (.s (.v (.func (.func 75) #[] #[])))), (18, kI (IntKind.i64.wrap (((shr64 (UInt64.ofInt (a1 + a3)) 1).toNat : Nat) : Int))), (19, kI ((IntKind.i64.wrap (((shr64 (UInt64.ofInt (a1 + a3)) 1).toNat : Nat) : Int)) + a2))], [(1000000, kH 0), (1000001, kH 1)], [⟨.row, 22, 1, js.length, .p 1 js⟩, ⟨(.dp false), 22, 1, l.length, .d (.by 5) l⟩]⟩ (aP g48 aN) ?_
         refine Vrs hT [0, 1] ⟨[(0, kH 0), (1, kI a1), (2, kI a2), (3, kI a3), (4, .c (.s (.v (.func (.func 75) #[] #[])))), (18, kI (IntKind.i64.wrap (((shr64 (UInt64.ofInt (a1 + a3)) 1).toNat : Nat) : Int))), (19, kI ((IntKind.i64.wrap (((shr64 (UInt64.ofInt (a1 + a3)) 1).toNat : Nat) : Int)) + a2))], [(1000000, kH 0), (1000001, kH 1)], [⟨.row, 22, 1, js.length, .p 1 js⟩, ⟨(.dp false), 22, 1, l.length, .d (.by 5) l⟩]⟩ ?_
         refine W_join (srMerge_j3_P n l js a1 a2 a3 r) ?_ ?_
         ·rintro _ ⟨i20_4, i21_3, rfl, h⟩
          unfold srMerge_j3 at h
          obtain ⟨g49, h⟩ := gd_some h
          refine Vgs hT fN [] [] [0, 1] ⟨[(0, kH 0), (1, kI a1), (2, kI a2), (3, kI a3), (4, .c (.s (.v (.func (.func 75) #[] #[])))), (18, kI (IntKind.i64.wrap (((shr64 (UInt64.ofInt (a1 + a3)) 1).toNat : Nat) : Int))), (19, kI ((IntKind.i64.wrap (((shr64 (UInt64.ofInt (a1 + a3)) 1).toNat : Nat) : Int)) + a2)), (20, kI i20_4), (21, kI i21_3), (22, kI (((IntKind.i64.wrap (((shr64 (UInt64.ofInt (a1 + a3)) 1).toNat : Nat) : Int)) + a2) - 1))], [(1000000, kH 0), (1000001, kH 1)], [⟨.row, 22, 1, js.length, .p 1 js⟩, ⟨(.dp false), 22, 1, l.length, .d (.by 5) l⟩]⟩ (aP g49 aN) ?_
          refine W_join (srMerge_j4_P n l js a1 a2 a3 r) ?_ ?_
          ·rintro _ ⟨i20_6, rfl, h⟩
           unfold srMerge_j4 at h
           obtain ⟨g50, h⟩ := gd_some h
           refine Vgs hT fN [] [] [0, 1] ⟨[(0, kH 0), (1, kI a1), (2, kI a2), (3, kI a3), (4, .c (.s (.v (.func (.func 75) #[] #[])))), (18, kI (IntKind.i64.wrap (((shr64 (UInt64.ofInt (a1 + a3)) 1).toNat : Nat) : Int))), (20, kI i20_6), (24, kI (((IntKind.i64.wrap (((shr64 (UInt64.ofInt (a1 + a3)) 1).toNat : Nat) : Int)) + a2) - i20_6))], [(1000000, kH 0), (1000001, kH 1)], [⟨.row, 22, 1, js.length, .p 1 js⟩, ⟨(.dp false), 22, 1, l.length, .d (.by 5) l⟩]⟩ (aP g50 aN) ?_
           refine W_join (srMerge_j5_P n l js a1 a2 a3 i20_6 r) ?_ ?_
           ·rintro _ ⟨dg1000000_7, rfl, h⟩
            unfold srMerge_j5 at h
            refine W_join (srMerge_j6_P n l js a1 a2 a3 i20_6 r) ?_ ?_
            ·rintro _ ⟨dg1000000_8, rfl, h⟩
             unfold srMerge_j6 at h
             refine W_seq ?_
             rcases Bool.eq_false_or_eq_true (decide ((IntKind.i64.wrap (((shr64 (UInt64.ofInt (a1 + a3)) 1).toNat : Nat) : Int)) < (((IntKind.i64.wrap (((shr64 (UInt64.ofInt (a1 + a3)) 1).toNat : Nat) : Int)) + a2) - i20_6))) with g51 | g51
             ·replace h := bif_t h g51
              refine Vg hT fN [(3, true)] [] [0, 1] ⟨[(0, kH 0), (3, kI a3), (4, .c (.s (.v (.func (.func 75) #[] #[])))), (18, kI (IntKind.i64.wrap (((shr64 (UInt64.ofInt (a1 + a3)) 1).toNat : Nat) : Int))), (24, kI (((IntKind.i64.wrap (((shr64 (UInt64.ofInt (a1 + a3)) 1).toNat : Nat) : Int)) + a2) - i20_6)), (213, kB (decide ((((IntKind.i64.wrap (((shr64 (UInt64.ofInt (a1 + a3)) 1).toNat : Nat) : Int)) + a2) - i20_6) < a3)))], [(1000000, kH 0), (1000001, kH 1)], [⟨.row, 22, 1, js.length, .p 1 dg1000000_8⟩, ⟨(.dp false), 22, 1, l.length, .d (.by 5) l⟩]⟩ (aP g51 aN) ?_
              refine Vi ((decide ((((IntKind.i64.wrap (((shr64 (UInt64.ofInt (a1 + a3)) 1).toNat : Nat) : Int)) + a2) - i20_6) < a3))) (fun g53 => ?_) (fun g53 => ?_)
              ·replace h := bif_t h g53
               obtain ⟨r219_1, g52, h⟩ := bind_some' h
               refine Vg hT (fM 5 (ih r219_1) fN) [] [] [0, 1] (srMerge_R l js r219_1) (aP g52 aN) ?_
               exact ⟨.inr rfl, by cases h; rfl⟩
              ·replace h := bif_f h g53
               refine Vc [] [0, 1] (srMerge_R l js dg1000000_8) (W_skip ?_)
               exact ⟨.inr rfl, by cases h; rfl⟩
             ·replace h := bif_f h g51
              refine Vg hT fN [(3, false)] [] [0, 1] ⟨[(0, kH 0), (3, kI a3), (4, .c (.s (.v (.func (.func 75) #[] #[])))), (18, kI (IntKind.i64.wrap (((shr64 (UInt64.ofInt (a1 + a3)) 1).toNat : Nat) : Int))), (24, kI (((IntKind.i64.wrap (((shr64 (UInt64.ofInt (a1 + a3)) 1).toNat : Nat) : Int)) + a2) - i20_6)), (213, kB false)], [(1000000, kH 0), (1000001, kH 1)], [⟨.row, 22, 1, js.length, .p 1 dg1000000_8⟩, ⟨(.dp false), 22, 1, l.length, .d (.by 5) l⟩]⟩ (aP g51 aN) ?_
              refine Vi (false) (fun hb => by cases hb) (fun _ => ?_)
              refine Vc [] [0, 1] (srMerge_R l js dg1000000_8) (W_skip ?_)
              exact ⟨.inr rfl, by cases h; rfl⟩
            ·refine W_seq ?_
             rcases Bool.eq_false_or_eq_true (decide (a1 < i20_6)) with g54 | g54
             ·replace h := bif_t h g54
              refine Vg hT fN [(3, true)] [] [0, 1] ⟨[(0, kH 0), (1, kI a1), (3, kI a3), (4, .c (.s (.v (.func (.func 75) #[] #[])))), (18, kI (IntKind.i64.wrap (((shr64 (UInt64.ofInt (a1 + a3)) 1).toNat : Nat) : Int))), (20, kI i20_6), (24, kI (((IntKind.i64.wrap (((shr64 (UInt64.ofInt (a1 + a3)) 1).toNat : Nat) : Int)) + a2) - i20_6)), (199, kB (decide (i20_6 < (IntKind.i64.wrap (((shr64 (UInt64.ofInt (a1 + a3)) 1).toNat : Nat) : Int)))))], [(1000000, kH 0), (1000001, kH 1)], [⟨.row, 22, 1, js.length, .p 1 dg1000000_7⟩, ⟨(.dp false), 22, 1, l.length, .d (.by 5) l⟩]⟩ (aP g54 aN) ?_
              refine Vi ((decide (i20_6 < (IntKind.i64.wrap (((shr64 (UInt64.ofInt (a1 + a3)) 1).toNat : Nat) : Int))))) (fun g56 => ?_) (fun g56 => ?_)
              ·replace h := bif_t h g56
               obtain ⟨r205_1, g55, h⟩ := bind_some' h
               refine Vg hT (fM 5 (ih r205_1) fN) [] [] [0, 1] (srMerge_j6_E l js a1 a2 a3 i20_6 r205_1) (aP g55 aN) ?_
               exact ⟨_, rfl, h⟩
              ·replace h := bif_f h g56
               refine Vc [] [0, 1] (srMerge_j6_E l js a1 a2 a3 i20_6 dg1000000_7) (W_skip ?_)
               exact ⟨_, rfl, h⟩
             ·replace h := bif_f h g54
              refine Vg hT fN [(3, false)] [] [0, 1] ⟨[(0, kH 0), (1, kI a1), (3, kI a3), (4, .c (.s (.v (.func (.func 75) #[] #[])))), (18, kI (IntKind.i64.wrap (((shr64 (UInt64.ofInt (a1 + a3)) 1).toNat : Nat) : Int))), (20, kI i20_6), (24, kI (((IntKind.i64.wrap (((shr64 (UInt64.ofInt (a1 + a3)) 1).toNat : Nat) : Int)) + a2) - i20_6)), (199, kB false)], [(1000000, kH 0), (1000001, kH 1)], [⟨.row, 22, 1, js.length, .p 1 dg1000000_7⟩, ⟨(.dp false), 22, 1, l.length, .d (.by 5) l⟩]⟩ (aP g54 aN) ?_
              refine Vi (false) (fun hb => by cases hb) (fun _ => ?_)
              refine Vc [] [0, 1] (srMerge_j6_E l js a1 a2 a3 i20_6 dg1000000_7) (W_skip ?_)
              exact ⟨_, rfl, h⟩
           ·refine W_seq ?_
            rcases Bool.eq_false_or_eq_true (decide (i20_6 < a2)) with g57 | g57
            ·replace h := bif_t h g57
             refine Vg hT fN [(3, true)] [] [0, 1] ⟨[(0, kH 0), (1, kI a1), (2, kI a2), (3, kI a3), (4, .c (.s (.v (.func (.func 75) #[] #[])))), (18, kI (IntKind.i64.wrap (((shr64 (UInt64.ofInt (a1 + a3)) 1).toNat : Nat) : Int))), (20, kI i20_6), (24, kI (((IntKind.i64.wrap (((shr64 (UInt64.ofInt (a1 + a3)) 1).toNat : Nat) : Int)) + a2) - i20_6)), (185, kB (decide (a2 < (((IntKind.i64.wrap (((shr64 (UInt64.ofInt (a1 + a3)) 1).toNat : Nat) : Int)) + a2) - i20_6))))], [(1000000, kH 0), (1000001, kH 1)], [⟨.row, 22, 1, js.length, .p 1 js⟩, ⟨(.dp false), 22, 1, l.length, .d (.by 5) l⟩]⟩ (aP g57 aN) ?_
             refine Vi ((decide (a2 < (((IntKind.i64.wrap (((shr64 (UInt64.ofInt (a1 + a3)) 1).toNat : Nat) : Int)) + a2) - i20_6)))) (fun g59 => ?_) (fun g59 => ?_)
             ·replace h := bif_t h g59
              obtain ⟨r191_1, g58, h⟩ := bind_some' h
              refine Vg hT (fM 5 (srRot_ok n r191_1) fN) [] [] [0, 1] (srMerge_j5_E l js a1 a2 a3 i20_6 r191_1) (aP g58 aN) ?_
              exact ⟨_, rfl, h⟩
             ·replace h := bif_f h g59
              refine Vc [] [0, 1] (srMerge_j5_E l js a1 a2 a3 i20_6 js) (W_skip ?_)
              exact ⟨_, rfl, h⟩
            ·replace h := bif_f h g57
             refine Vg hT fN [(3, false)] [] [0, 1] ⟨[(0, kH 0), (1, kI a1), (2, kI a2), (3, kI a3), (4, .c (.s (.v (.func (.func 75) #[] #[])))), (18, kI (IntKind.i64.wrap (((shr64 (UInt64.ofInt (a1 + a3)) 1).toNat : Nat) : Int))), (20, kI i20_6), (24, kI (((IntKind.i64.wrap (((shr64 (UInt64.ofInt (a1 + a3)) 1).toNat : Nat) : Int)) + a2) - i20_6)), (185, kB false)], [(1000000, kH 0), (1000001, kH 1)], [⟨.row, 22, 1, js.length, .p 1 js⟩, ⟨(.dp false), 22, 1, l.length, .d (.by 5) l⟩]⟩ (aP g57 aN) ?_
             refine Vi (false) (fun hb => by cases hb) (fun _ => ?_)
             refine Vc [] [0, 1] (srMerge_j5_E l js a1 a2 a3 i20_6 js) (W_skip ?_)
             exact ⟨_, rfl, h⟩
          ·refine W_block ?_
           refine Vc [] [0, 1] (srMerge_l5_E l js a1 a2 a3 i20_4 i21_3) (W_lp ((srMerge_l5_P n l js a1 a2 a3 r)) n ⟨_, _, rfl, h⟩ ?_)
           rintro fu_l5 _ ⟨i20_7, i21_5, rfl, h⟩
           cases fu_l5 with
           | zero => cases h
           | succ fu_l5 =>
            refine ⟨fu_l5, rfl, ?_⟩
            rw [srMerge_l5] at h
            refine W_seq ?_
            refine Vrs hT [0, 1] ⟨[(0, kH 0), (1, kI a1), (2, kI a2), (3, kI a3), (4, .c (.s (.v (.func (.func 75) #[] #[])))), (18, kI (IntKind.i64.wrap (((shr64 (UInt64.ofInt (a1 + a3)) 1).toNat : Nat) : Int))), (19, kI ((IntKind.i64.wrap (((shr64 (UInt64.ofInt (a1 + a3)) 1).toNat : Nat) : Int)) + a2)), (20, kI i20_7), (21, kI i21_5), (22, kI (((IntKind.i64.wrap (((shr64 (UInt64.ofInt (a1 + a3)) 1).toNat : Nat) : Int)) + a2) - 1)), (151, kB (decide (i20_7 < i21_5)))], [(1000000, kH 0), (1000001, kH 1)], [⟨.row, 22, 1, js.length, .p 1 js⟩, ⟨(.dp false), 22, 1, l.length, .d (.by 5) l⟩]⟩ ?_
            refine Vi ((decide (i20_7 < i21_5))) (fun g69 => ?_) (fun g69 => ?_)
            ·replace h := bif_t h g69
             refine W_skip ?_
             refine W_block ?_
             obtain ⟨g60, g61, h⟩ := gd2 h
             refine Vgs hT fN [] [] [0, 1] ⟨[(0, kH 0), (1, kI a1), (2, kI a2), (3, kI a3), (4, .c (.s (.v (.func (.func 75) #[] #[])))), (18, kI (IntKind.i64.wrap (((shr64 (UInt64.ofInt (a1 + a3)) 1).toNat : Nat) : Int))), (19, kI ((IntKind.i64.wrap (((shr64 (UInt64.ofInt (a1 + a3)) 1).toNat : Nat) : Int)) + a2)), (20, kI i20_7), (21, kI i21_5), (22, kI (((IntKind.i64.wrap (((shr64 (UInt64.ofInt (a1 + a3)) 1).toNat : Nat) : Int)) + a2) - 1)), (23, kI (IntKind.i64.wrap (((shr64 (UInt64.ofInt (i20_7 + i21_5)) 1).toNat : Nat) : Int)))], [(1000000, kH 0), (1000001, kH 1)], [⟨.row, 22, 1, js.length, .p 1 js⟩, ⟨(.dp false), 22, 1, l.length, .d (.by 5) l⟩]⟩ (aP g60 (aP g61 aN)) ?_
             refine W_seq ?_
             obtain ⟨g62, g63, g64, g65, g66, h⟩ := gd5 h
             refine W_regG hT (fT 11 cmp_h fN) (by kernel_rfl) [] [0, 1, 2, 3, 4, 5, 6, 7, 8, 9, 10, 12, 13] [[0, 1, 2, 3, 4, 5, 6, 7, 8, 9, 10], [0, 1, 2, 3, 4, 5, 6, 7, 8, 9, 10, 11, 12, 13]] [⟨[(0, kH 0), (1, kI a1), (2, kI a2), (3, kI a3), (4, .c (.s (.v (.func (.func 75) #[] #[])))), (18, kI (IntKind.i64.wrap (((shr64 (UInt64.ofInt (a1 + a3)) 1).toNat : Nat) : Int))), (19, kI ((IntKind.i64.wrap (((shr64 (UInt64.ofInt (a1 + a3)) 1).toNat : Nat) : Int)) + a2)), (20, kI i20_7), (21, kI i21_5), (22, kI (((IntKind.i64.wrap (((shr64 (UInt64.ofInt (a1 + a3)) 1).toNat : Nat) : Int)) + a2) - 1)), (23, kI (IntKind.i64.wrap (((shr64 (UInt64.ofInt (i20_7 + i21_5)) 1).toNat : Nat) : Int))), (158, .c (.s (.v (.func (.func 75) #[] #[])))), (159, kH 0), (160, kI (((IntKind.i64.wrap (((shr64 (UInt64.ofInt (a1 + a3)) 1).toNat : Nat) : Int)) + a2) - 1)), (161, kI (IntKind.i64.wrap (((shr64 (UInt64.ofInt (i20_7 + i21_5)) 1).toNat : Nat) : Int))), (162, kI ((((IntKind.i64.wrap (((shr64 (UInt64.ofInt (a1 + a3)) 1).toNat : Nat) : Int)) + a2) - 1) - (IntKind.i64.wrap (((shr64 (UInt64.ofInt (i20_7 + i21_5)) 1).toNat : Nat) : Int)))), (163, kP 0 (((((IntKind.i64.wrap (((shr64 (UInt64.ofInt (a1 + a3)) 1).toNat : Nat) : Int)) + a2) - 1) - (IntKind.i64.wrap (((shr64 (UInt64.ofInt (i20_7 + i21_5)) 1).toNat : Nat) : Int))).toNat)), (164, .c (.gi 1 (js.getD (((((IntKind.i64.wrap (((shr64 (UInt64.ofInt (a1 + a3)) 1).toNat : Nat) : Int)) + a2) - 1) - (IntKind.i64.wrap (((shr64 (UInt64.ofInt (i20_7 + i21_5)) 1).toNat : Nat) : Int))).toNat) 0))), (165, kH 0), (166, kI (IntKind.i64.wrap (((shr64 (UInt64.ofInt (i20_7 + i21_5)) 1).toNat : Nat) : Int))), (167, kP 0 ((IntKind.i64.wrap (((shr64 (UInt64.ofInt (i20_7 + i21_5)) 1).toNat : Nat) : Int)).toNat)), (168, .c (.gi 1 (js.getD ((IntKind.i64.wrap (((shr64 (UInt64.ofInt (i20_7 + i21_5)) 1).toNat : Nat) : Int)).toNat) 0)))], [(1000000, kH 0), (1000001, kH 1)], [⟨.row, 22, 1, js.length, .p 1 js⟩, ⟨(.dp false), 22, 1, l.length, .d (.by 5) l⟩]⟩, ⟨[(0, kH 0), (1, kI a1), (2, kI a2), (3, kI a3), (4, .c (.s (.v (.func (.func 75) #[] #[])))), (18, kI (IntKind.i64.wrap (((shr64 (UInt64.ofInt (a1 + a3)) 1).toNat : Nat) : Int))), (19, kI ((IntKind.i64.wrap (((shr64 (UInt64.ofInt (a1 + a3)) 1).toNat : Nat) : Int)) + a2)), (20, kI i20_7), (21, kI i21_5), (22, kI (((IntKind.i64.wrap (((shr64 (UInt64.ofInt (a1 + a3)) 1).toNat : Nat) : Int)) + a2) - 1)), (23, kI (IntKind.i64.wrap (((shr64 (UInt64.ofInt (i20_7 + i21_5)) 1).toNat : Nat) : Int))), (169, kI (Lib.compareBytes (l.getD (js.getD (((((IntKind.i64.wrap (((shr64 (UInt64.ofInt (a1 + a3)) 1).toNat : Nat) : Int)) + a2) - 1) - (IntKind.i64.wrap (((shr64 (UInt64.ofInt (i20_7 + i21_5)) 1).toNat : Nat) : Int))).toNat) 0) []) (l.getD (js.getD ((IntKind.i64.wrap (((shr64 (UInt64.ofInt (i20_7 + i21_5)) 1).toNat : Nat) : Int)).toNat) 0) []))), (170, kB (decide ((Lib.compareBytes (l.getD (js.getD (((((IntKind.i64.wrap (((shr64 (UInt64.ofInt (a1 + a3)) 1).toNat : Nat) : Int)) + a2) - 1) - (IntKind.i64.wrap (((shr64 (UInt64.ofInt (i20_7 + i21_5)) 1).toNat : Nat) : Int))).toNat) 0) []) (l.getD (js.getD ((IntKind.i64.wrap (((shr64 (UInt64.ofInt (i20_7 + i21_5)) 1).toNat : Nat) : Int)).toNat) 0) [])) < (0 : Int)))), (171, kB (!(decide ((Lib.compareBytes (l.getD (js.getD (((((IntKind.i64.wrap (((shr64 (UInt64.ofInt (a1 + a3)) 1).toNat : Nat) : Int)) + a2) - 1) - (IntKind.i64.wrap (((shr64 (UInt64.ofInt (i20_7 + i21_5)) 1).toNat : Nat) : Int))).toNat) 0) []) (l.getD (js.getD ((IntKind.i64.wrap (((shr64 (UInt64.ofInt (i20_7 + i21_5)) 1).toNat : Nat) : Int)).toNat) 0) [])) < (0 : Int)))))], [(1000000, kH 0), (1000001, kH 1)], [⟨.row, 22, 1, js.length, .p 1 js⟩, ⟨(.dp false), 22, 1, l.length, .d (.by 5) l⟩]⟩] [0, 1, 2, 3, 4, 5, 6, 7, 8, 9, 10] [⟨0, 11, 1, [12, 13], [], [0, 1, 2, 3, 4, 18, 19, 20, 21, 22, 23, 169, 170, 171], [0, 1]⟩] [(0, 0), (0, 1), (0, 2), (0, 3), (0, 4), (0, 5), (0, 6), (0, 7), (0, 8), (0, 9), (0, 10), (1, 12), (1, 13)] 1 [0, 1, 2, 3, 4, 18, 19, 20, 21, 22, 23, 158, 159, 160, 161, 162, 163, 164, 165, 166, 167, 168] [0, 1] [] [0, 1, 2, 3, 4, 18, 19, 20, 21, 22, 23, 171] [0, 1] (s' := ⟨[(0, kH 0), (1, kI a1), (2, kI a2), (3, kI a3), (4, .c (.s (.v (.func (.func 75) #[] #[])))), (18, kI (IntKind.i64.wrap (((shr64 (UInt64.ofInt (a1 + a3)) 1).toNat : Nat) : Int))), (19, kI ((IntKind.i64.wrap (((shr64 (UInt64.ofInt (a1 + a3)) 1).toNat : Nat) : Int)) + a2)), (20, kI i20_7), (21, kI i21_5), (22, kI (((IntKind.i64.wrap (((shr64 (UInt64.ofInt (a1 + a3)) 1).toNat : Nat) : Int)) + a2) - 1)), (23, kI (IntKind.i64.wrap (((shr64 (UInt64.ofInt (i20_7 + i21_5)) 1).toNat : Nat) : Int))), (171, kB (!(decide ((Lib.compareBytes (l.getD (js.getD (((((IntKind.i64.wrap (((shr64 (UInt64.ofInt (a1 + a3)) 1).toNat : Nat) : Int)) + a2) - 1) - (IntKind.i64.wrap (((shr64 (UInt64.ofInt (i20_7 + i21_5)) 1).toNat : Nat) : Int))).toNat) 0) []) (l.getD (js.getD ((IntKind.i64.wrap (((shr64 (UInt64.ofInt (i20_7 + i21_5)) 1).toNat : Nat) : Int)).toNat) 0) [])) < (0 : Int)))))], [(1000000, kH 0), (1000001, kH 1)], [⟨.row, 22, 1, js.length, .p 1 js⟩, ⟨(.dp false), 22, 1, l.length, .d (.by 5) l⟩]⟩) (by kernel_rfl) ⟨_, (by kernel_rfl), (allP_cons.2 ⟨g62, (allP_cons.2 ⟨g63, (allP_cons.2 ⟨g64, (allP_cons.2 ⟨g65, (allP_cons.2 ⟨g66, allP_nil⟩)⟩)⟩)⟩)⟩)⟩ (AllE.cons ⟨_, (by kernel_rfl), allP_nil⟩ AllE.nil) (AllR.cons ⟨_, (by kernel_rfl), allP_nil⟩ (AllR.cons ⟨_, (by kernel_rfl), allP_nil⟩ (AllR.cons ⟨_, (by kernel_rfl), allP_nil⟩ (AllR.cons ⟨_, (by kernel_rfl), allP_nil⟩ (AllR.cons ⟨_, (by kernel_rfl), (allP_cons.2 ⟨g62, allP_nil⟩)⟩ (AllR.cons ⟨_, (by kernel_rfl), (allP_cons.2 ⟨g63, (allP_cons.2 ⟨g64, allP_nil⟩)⟩)⟩ (AllR.cons ⟨_, (by kernel_rfl), allP_nil⟩ (AllR.cons ⟨_, (by kernel_rfl), allP_nil⟩ (AllR.cons ⟨_, (by kernel_rfl), allP_nil⟩ (AllR.cons ⟨_, (by kernel_rfl), (allP_cons.2 ⟨g65, (allP_cons.2 ⟨g66, allP_nil⟩)⟩)⟩ (AllR.cons ⟨_, (by kernel_rfl), allP_nil⟩ (AllR.cons ⟨_, (by kernel_rfl), allP_nil⟩ (AllR.cons ⟨_, (by kernel_rfl), allP_nil⟩ AllR.nil))))))))))))) (by kernel_rfl) ?_
             refine Vi ((!(decide ((Lib.compareBytes (l.getD (js.getD (((((IntKind.i64.wrap (((shr64 (UInt64.ofInt (a1 + a3)) 1).toNat : Nat) : Int)) + a2) - 1) - (IntKind.i64.wrap (((shr64 (UInt64.ofInt (i20_7 + i21_5)) 1).toNat : Nat) : Int))).toNat) 0) []) (l.getD (js.getD ((IntKind.i64.wrap (((shr64 (UInt64.ofInt (i20_7 + i21_5)) 1).toNat : Nat) : Int)).toNat) 0) [])) < (0 : Int))))) (fun g68 => ?_) (fun g68 => ?_)
             ·replace h := bif_t h g68
              obtain ⟨g67, h⟩ := gd_some h
              refine Vg hT fN [] [] [0, 1] (srMerge_l5_E l js a1 a2 a3 ((IntKind.i64.wrap (((shr64 (UInt64.ofInt (i20_7 + i21_5)) 1).toNat : Nat) : Int)) + 1) i21_5) (aP g67 aN) ?_
              exact ⟨_, _, rfl, h⟩
             ·replace h := bif_f h g68
              refine Vr hT [0, 1] (srMerge_l5_E l js a1 a2 a3 i20_7 (IntKind.i64.wrap (((shr64 (UInt64.ofInt (i20_7 + i21_5)) 1).toNat : Nat) : Int))) ?_
              exact ⟨_, _, rfl, h⟩
            ·replace h := bif_f h g69
             refine Vc [] [0, 1] (srMerge_j4_E l js a1 a2 a3 i20_7) (W_exit ?_)
             exact ⟨_, rfl, h⟩
         ·refine W_seq ?_
          refine Vr hT [0, 1] ⟨[(0, kH 0), (1, kI a1), (2, kI a2), (3, kI a3), (4, .c (.s (.v (.func (.func 75) #[] #[])))), (18, kI (IntKind.i64.wrap (((shr64 (UInt64.ofInt (a1 + a3)) 1).toNat : Nat) : Int))), (19, kI ((IntKind.i64.wrap (((shr64 (UInt64.ofInt (a1 + a3)) 1).toNat : Nat) : Int)) + a2)), (140, kB (decide ((IntKind.i64.wrap (((shr64 (UInt64.ofInt (a1 + a3)) 1).toNat : Nat) : Int)) < a2)))], [(1000000, kH 0), (1000001, kH 1)], [⟨.row, 22, 1, js.length, .p 1 js⟩, ⟨(.dp false), 22, 1, l.length, .d (.by 5) l⟩]⟩ ?_
          refine Vi ((decide ((IntKind.i64.wrap (((shr64 (UInt64.ofInt (a1 + a3)) 1).toNat : Nat) : Int)) < a2))) (fun g71 => ?_) (fun g71 => ?_)
          ·replace h := bif_t h g71
           obtain ⟨g70, h⟩ := gd_some h
           refine Vgs hT fN [] [] [0, 1] ⟨[(0, kH 0), (1, kI a1), (2, kI a2), (3, kI a3), (4, .c (.s (.v (.func (.func 75) #[] #[])))), (18, kI (IntKind.i64.wrap (((shr64 (UInt64.ofInt (a1 + a3)) 1).toNat : Nat) : Int))), (19, kI ((IntKind.i64.wrap (((shr64 (UInt64.ofInt (a1 + a3)) 1).toNat : Nat) : Int)) + a2)), (20, kI (((IntKind.i64.wrap (((shr64 (UInt64.ofInt (a1 + a3)) 1).toNat : Nat) : Int)) + a2) - a3))], [(1000000, kH 0), (1000001, kH 1)], [⟨.row, 22, 1, js.length, .p 1 js⟩, ⟨(.dp false), 22, 1, l.length, .d (.by 5) l⟩]⟩ (aP g70 aN) ?_
           refine Vr hT [0, 1] (srMerge_j3_E l js a1 a2 a3 (((IntKind.i64.wrap (((shr64 (UInt64.ofInt (a1 + a3)) 1).toNat : Nat) : Int)) + a2) - a3) (IntKind.i64.wrap (((shr64 (UInt64.ofInt (a1 + a3)) 1).toNat : Nat) : Int))) ?_
           exact ⟨_, _, rfl, h⟩
          ·replace h := bif_f h g71
           refine Vrs hT [0, 1] ⟨[(0, kH 0), (1, kI a1), (2, kI a2), (3, kI a3), (4, .c (.s (.v (.func (.func 75) #[] #[])))), (18, kI (IntKind.i64.wrap (((shr64 (UInt64.ofInt (a1 + a3)) 1).toNat : Nat) : Int))), (19, kI ((IntKind.i64.wrap (((shr64 (UInt64.ofInt (a1 + a3)) 1).toNat : Nat) : Int)) + a2)), (20, kI a1)], [(1000000, kH 0), (1000001, kH 1)], [⟨.row, 22, 1, js.length, .p 1 js⟩, ⟨(.dp false), 22, 1, l.length, .d (.by 5) l⟩]⟩ ?_
           refine Vr hT [0, 1] (srMerge_j3_E l js a1 a2 a3 a1 a2) ?_
           exact ⟨_, _, rfl, h⟩
  ·cases ns with
   | nil => exact (show False from h).elim
   | cons a1 ns =>
    cases ns with
    | nil => exact (show False from h).elim
    | cons a2 ns =>
     cases ns with
     | nil => exact (show False from h).elim
     | cons a3 ns =>
      cases ns with
      | cons z ns => exact (show False from h).elim
      | nil =>
       exact Nat.le_of_ble_eq_true rfl
def srStable_j3_E (l : List (List UInt8)) (js : List Nat) (a1 : Int) (i6_1 : Int) (dg1000000_30 : List Nat) : S := ⟨[(0, kH 0), (1, kI a1), (2, .c (.s (.v (.func (.func 75) #[] #[])))), (6, kI i6_1)], [(1000000, kH 0), (1000001, kH 1)], [⟨.row, 22, 1, js.length, .p 1 dg1000000_30⟩, ⟨(.dp false), 22, 1, l.length, .d (.by 5) l⟩]⟩
abbrev srStable_j3_P (n : Nat) (l : List (List UInt8)) (js : List Nat) (a1 : Int) (i6_1 : Int) (k_l1 : (List Nat) → Int → Option (List Nat)) (r : List Nat) : S → Prop := fun s => ∃ (dg1000000_30 : List Nat), s = srStable_j3_E l js a1 i6_1 dg1000000_30 ∧ srStable_j3 n l js a1 i6_1 k_l1 dg1000000_30 = some r
def srStable_j2_E (l : List (List UInt8)) (js : List Nat) (a1 : Int) (i6_1 : Int) (dg1000000_29 : List Nat) (i7_21 : Int) : S := ⟨[(0, kH 0), (1, kI a1), (2, .c (.s (.v (.func (.func 75) #[] #[])))), (6, kI i6_1), (7, kI i7_21)], [(1000000, kH 0), (1000001, kH 1)], [⟨.row, 22, 1, js.length, .p 1 dg1000000_29⟩, ⟨(.dp false), 22, 1, l.length, .d (.by 5) l⟩]⟩
abbrev srStable_j2_P (n : Nat) (l : List (List UInt8)) (js : List Nat) (a1 : Int) (i6_1 : Int) (k_l1 : (List Nat) → Int → Option (List Nat)) (r : List Nat) : S → Prop := fun s => ∃ (dg1000000_29 : List Nat), ∃ (i7_21 : Int), s = srStable_j2_E l js a1 i6_1 dg1000000_29 i7_21 ∧ srStable_j2 n l js a1 i6_1 k_l1 dg1000000_29 i7_21 = some r
def srStable_l2_E (l : List (List UInt8)) (js : List Nat) (a1 : Int) (i6_1 : Int) (dg1000000_31 : List Nat) (i7_22 : Int) (i8_14 : Int) : S := ⟨[(0, kH 0), (1, kI a1), (2, .c (.s (.v (.func (.func 75) #[] #[])))), (6, kI i6_1), (7, kI i7_22), (8, kI i8_14)], [(1000000, kH 0), (1000001, kH 1)], [⟨.row, 22, 1, js.length, .p 1 dg1000000_31⟩, ⟨(.dp false), 22, 1, l.length, .d (.by 5) l⟩]⟩
abbrev srStable_l2_P (n : Nat) (l : List (List UInt8)) (js : List Nat) (a1 : Int) (i6_1 : Int) (k_l1 : (List Nat) → Int → Option (List Nat)) (r : List Nat) (fu : Nat) : S → Prop := fun s => ∃ (dg1000000_31 : List Nat), ∃ (i7_22 : Int), ∃ (i8_14 : Int), s = srStable_l2_E l js a1 i6_1 dg1000000_31 i7_22 i8_14 ∧ srStable_l2 n l js a1 i6_1 k_l1 fu dg1000000_31 i7_22 i8_14 = some r
def srStable_l1_E (l : List (List UInt8)) (js : List Nat) (a1 : Int) (dg1000000_23 : List Nat) (i6_1 : Int) : S := ⟨[(0, kH 0), (1, kI a1), (2, .c (.s (.v (.func (.func 75) #[] #[])))), (6, kI i6_1)], [(1000000, kH 0), (1000001, kH 1)], [⟨.row, 22, 1, js.length, .p 1 dg1000000_23⟩, ⟨(.dp false), 22, 1, l.length, .d (.by 5) l⟩]⟩
abbrev srStable_l1_P (n : Nat) (l : List (List UInt8)) (js : List Nat) (a1 : Int) (r : List Nat) (fu : Nat) : S → Prop := fun s => ∃ (dg1000000_23 : List Nat), ∃ (i6_1 : Int), s = srStable_l1_E l js a1 dg1000000_23 i6_1 ∧ srStable_l1 n l js a1 fu dg1000000_23 i6_1 = some r
def srStable_j1_E (l : List (List UInt8)) (js : List Nat) (a1 : Int) (dg1000000_18 : List Nat) (i7_13 : Int) : S := ⟨[(0, kH 0), (1, kI a1), (2, .c (.s (.v (.func (.func 75) #[] #[])))), (6, kI 20), (7, kI i7_13)], [(1000000, kH 0), (1000001, kH 1)], [⟨.row, 22, 1, js.length, .p 1 dg1000000_18⟩, ⟨(.dp false), 22, 1, l.length, .d (.by 5) l⟩]⟩
abbrev srStable_j1_P (n : Nat) (l : List (List UInt8)) (js : List Nat) (a1 : Int) (r : List Nat) : S → Prop := fun s => ∃ (dg1000000_18 : List Nat), ∃ (i7_13 : Int), s = srStable_j1_E l js a1 dg1000000_18 i7_13 ∧ srStable_j1 n l js a1 dg1000000_18 i7_13 = some r
def srStable_l3_E (l : List (List UInt8)) (js : List Nat) (a1 : Int) (dg1000000_32 : List Nat) (i7_23 : Int) (i8_15 : Int) : S := ⟨[(0, kH 0), (1, kI a1), (2, .c (.s (.v (.func (.func 75) #[] #[])))), (6, kI 20), (7, kI i7_23), (8, kI i8_15)], [(1000000, kH 0), (1000001, kH 1)], [⟨.row, 22, 1, js.length, .p 1 dg1000000_32⟩, ⟨(.dp false), 22, 1, l.length, .d (.by 5) l⟩]⟩
abbrev srStable_l3_P (n : Nat) (l : List (List UInt8)) (js : List Nat) (a1 : Int) (r : List Nat) (fu : Nat) : S → Prop := fun s => ∃ (dg1000000_32 : List Nat), ∃ (i7_23 : Int), ∃ (i8_15 : Int), s = srStable_l3_E l js a1 dg1000000_32 i7_23 i8_15 ∧ srStable_l3 n l js a1 fu dg1000000_32 i7_23 i8_15 = some r
def srStable_R (l : List (List UInt8)) (js : List Nat) (r : List Nat) : S := ⟨[], [(1000000, kH 0), (1000001, kH 1)], [⟨.row, 22, 1, js.length, .p 1 r⟩, ⟨(.dp false), 22, 1, l.length, .d (.by 5) l⟩]⟩
def srStable_ct (n : Nat) (r : List Nat) : CtM := rwC 75 22 (fun l js ns => match ns with | [a1] => srStable n l js a1 = some r | _ => False) r
theorem srStable_ok (n : Nat) (r : List Nat) : FnMOk Try.prog 84 (srStable_ct n r) := by
 refine fnokR (e' := 5) 63 (fun l js => srStable_R l js r) Try.func84 (fun w bs l js ns h => ?_) (fun l js ns h => ?_) (fun l js => ⟨_, rfl⟩)
 ·cases ns with
  | nil => exact (show False from h).elim
  | cons a1 ns =>
   cases ns with
   | cons z ns => exact (show False from h).elim
   | nil =>
    have h : srStable n l js a1 = some r := h
    unfold srStable at h
    have hT := tabO_psa
    refine Vrs hT [0, 1] ⟨[(0, kH 0), (1, kI a1), (2, .c (.s (.v (.func (.func 75) #[] #[])))), (6, kI 20)], [(1000000, kH 0), (1000001, kH 1)], [⟨.row, 22, 1, js.length, .p 1 js⟩, ⟨(.dp false), 22, 1, l.length, .d (.by 5) l⟩]⟩ ?_
    refine Vrs hT [0, 1] ⟨[(0, kH 0), (1, kI a1), (2, .c (.s (.v (.func (.func 75) #[] #[])))), (6, kI 20), (7, kI 0), (8, kI 20)], [(1000000, kH 0), (1000001, kH 1)], [⟨.row, 22, 1, js.length, .p 1 js⟩, ⟨(.dp false), 22, 1, l.length, .d (.by 5) l⟩]⟩ ?_
    refine W_join (srStable_j1_P n l js a1 r) ?_ ?_
    ·rintro _ ⟨dg1000000_18, i7_13, rfl, h⟩
     unfold srStable_j1 at h
     obtain ⟨r27_1, g1, h⟩ := bind_some' h
     refine Vgs hT (fM 4 (srIns_ok n r27_1) fN) [] [] [0, 1] ⟨[(0, kH 0), (1, kI a1), (2, .c (.s (.v (.func (.func 75) #[] #[])))), (6, kI 20)], [(1000000, kH 0), (1000001, kH 1)], [⟨.row, 22, 1, js.length, .p 1 r27_1⟩, ⟨(.dp false), 22, 1, l.length, .d (.by 5) l⟩]⟩ (aP g1 aN) ?_
     refine W_block ?_
     refine Vc [] [0, 1] (srStable_l1_E l js a1 r27_1 20) (W_lp ((srStable_l1_P n l js a1 r)) n ⟨_, _, rfl, h⟩ ?_)
     rintro fu_l1 _ ⟨dg1000000_23, i6_1, rfl, h⟩
     cases fu_l1 with
     | zero => cases h
     | succ fu_l1 =>
      refine ⟨fu_l1, rfl, ?_⟩
      rw [srStable_l1] at h
      refine W_seq ?_
      refine Vrs hT [0, 1] ⟨[(0, kH 0), (1, kI a1), (2, .c (.s (.v (.func (.func 75) #[] #[])))), (6, kI i6_1), (30, kB (decide (i6_1 < a1)))], [(1000000, kH 0), (1000001, kH 1)], [⟨.row, 22, 1, js.length, .p 1 dg1000000_23⟩, ⟨(.dp false), 22, 1, l.length, .d (.by 5) l⟩]⟩ ?_
      refine Vi ((decide (i6_1 < a1))) (fun g12 => ?_) (fun g12 => ?_)
      ·replace h := bif_t h g12
       refine W_skip ?_
       refine W_block ?_
       obtain ⟨g2, h⟩ := gd_some h
       refine Vgs hT fN [] [] [0, 1] ⟨[(0, kH 0), (1, kI a1), (2, .c (.s (.v (.func (.func 75) #[] #[])))), (6, kI i6_1), (7, kI 0), (8, kI (2 * i6_1))], [(1000000, kH 0), (1000001, kH 1)], [⟨.row, 22, 1, js.length, .p 1 dg1000000_23⟩, ⟨(.dp false), 22, 1, l.length, .d (.by 5) l⟩]⟩ (aP g2 aN) ?_
       refine W_join (srStable_j2_P n l js a1 i6_1 (srStable_l1 n l js a1 fu_l1) r) ?_ ?_
       ·rintro _ ⟨dg1000000_29, i7_21, rfl, h⟩
        unfold srStable_j2 at h
        refine W_join (srStable_j3_P n l js a1 i6_1 (srStable_l1 n l js a1 fu_l1) r) ?_ ?_
        ·rintro _ ⟨dg1000000_30, rfl, h⟩
         unfold srStable_j3 at h
         obtain ⟨g3, h⟩ := gd_some h
         refine Vg hT fN [] [] [0, 1] (srStable_l1_E l js a1 dg1000000_30 (i6_1 * 2)) (aP g3 aN) ?_
         exact ⟨_, _, rfl, h⟩
        ·refine W_seq ?_
         obtain ⟨g4, h⟩ := gd_some h
         refine Vg hT fN [] [] [0, 1] ⟨[(0, kH 0), (1, kI a1), (2, .c (.s (.v (.func (.func 75) #[] #[])))), (6, kI i6_1), (7, kI i7_21), (9, kI (i7_21 + i6_1))], [(1000000, kH 0), (1000001, kH 1)], [⟨.row, 22, 1, js.length, .p 1 dg1000000_29⟩, ⟨(.dp false), 22, 1, l.length, .d (.by 5) l⟩]⟩ (aP g4 aN) ?_
         refine Vrs hT [0, 1] ⟨[(0, kH 0), (1, kI a1), (2, .c (.s (.v (.func (.func 75) #[] #[])))), (6, kI i6_1), (7, kI i7_21), (9, kI (i7_21 + i6_1)), (54, kB (decide ((i7_21 + i6_1) < a1)))], [(1000000, kH 0), (1000001, kH 1)], [⟨.row, 22, 1, js.length, .p 1 dg1000000_29⟩, ⟨(.dp false), 22, 1, l.length, .d (.by 5) l⟩]⟩ ?_
         refine Vi ((decide ((i7_21 + i6_1) < a1))) (fun g6 => ?_) (fun g6 => ?_)
         ·replace h := bif_t h g6
          obtain ⟨r60_5, g5, h⟩ := bind_some' h
          refine Vg hT (fM 5 (srMerge_ok n r60_5) fN) [] [] [0, 1] (srStable_j3_E l js a1 i6_1 r60_5) (aP g5 aN) ?_
          exact ⟨_, rfl, h⟩
         ·replace h := bif_f h g6
          refine Vc [] [0, 1] (srStable_j3_E l js a1 i6_1 dg1000000_29) (W_skip ?_)
          exact ⟨_, rfl, h⟩
       ·refine W_block ?_
        refine Vc [] [0, 1] (srStable_l2_E l js a1 i6_1 dg1000000_23 0 (2 * i6_1)) (W_lp ((srStable_l2_P n l js a1 i6_1 (srStable_l1 n l js a1 fu_l1) r)) n ⟨_, _, _, rfl, h⟩ ?_)
        rintro fu_l2 _ ⟨dg1000000_31, i7_22, i8_14, rfl, h⟩
        cases fu_l2 with
        | zero => cases h
        | succ fu_l2 =>
         refine ⟨fu_l2, rfl, ?_⟩
         rw [srStable_l2] at h
         refine W_seq ?_
         refine Vrs hT [0, 1] ⟨[(0, kH 0), (1, kI a1), (2, .c (.s (.v (.func (.func 75) #[] #[])))), (6, kI i6_1), (7, kI i7_22), (8, kI i8_14), (35, kB (decide (i8_14 ≤ a1)))], [(1000000, kH 0), (1000001, kH 1)], [⟨.row, 22, 1, js.length, .p 1 dg1000000_31⟩, ⟨(.dp false), 22, 1, l.length, .d (.by 5) l⟩]⟩ ?_
         refine Vi ((decide (i8_14 ≤ a1))) (fun g11 => ?_) (fun g11 => ?_)
         ·replace h := bif_t h g11
          refine W_skip ?_
          refine W_block ?_
          obtain ⟨g7, h⟩ := gd_some h
          obtain ⟨r43_15, g8, h⟩ := bind_some' h
          refine Vgs hT (fM 7 (srMerge_ok n r43_15) fN) [] [] [0, 1] ⟨[(0, kH 0), (1, kI a1), (2, .c (.s (.v (.func (.func 75) #[] #[])))), (6, kI i6_1), (8, kI i8_14)], [(1000000, kH 0), (1000001, kH 1)], [⟨.row, 22, 1, js.length, .p 1 r43_15⟩, ⟨(.dp false), 22, 1, l.length, .d (.by 5) l⟩]⟩ (aP g7 (aP g8 aN)) ?_
          refine Vrs hT [0, 1] ⟨[(0, kH 0), (1, kI a1), (2, .c (.s (.v (.func (.func 75) #[] #[])))), (6, kI i6_1), (7, kI i8_14), (8, kI i8_14)], [(1000000, kH 0), (1000001, kH 1)], [⟨.row, 22, 1, js.length, .p 1 r43_15⟩, ⟨(.dp false), 22, 1, l.length, .d (.by 5) l⟩]⟩ ?_
          obtain ⟨g9, g10, h⟩ := gd2 h
          refine Vg hT fN [] [] [0, 1] (srStable_l2_E l js a1 i6_1 r43_15 i8_14 (i8_14 + (2 * i6_1))) (aP g9 (aP g10 aN)) ?_
          exact ⟨_, _, _, rfl, h⟩
         ·replace h := bif_f h g11
          refine Vc [] [0, 1] (srStable_j2_E l js a1 i6_1 dg1000000_31 i7_22) (W_exit ?_)
          exact ⟨_, _, rfl, h⟩
      ·replace h := bif_f h g12
       refine Vc [] [0, 1] (srStable_R l js dg1000000_23) (W_exit ?_)
       exact ⟨.inr rfl, by cases h; rfl⟩
    ·refine W_block ?_
     refine Vc [] [0, 1] (srStable_l3_E l js a1 js 0 20) (W_lp ((srStable_l3_P n l js a1 r)) n ⟨_, _, _, rfl, h⟩ ?_)
     rintro fu_l3 _ ⟨dg1000000_32, i7_23, i8_15, rfl, h⟩
     cases fu_l3 with
     | zero => cases h
     | succ fu_l3 =>
      refine ⟨fu_l3, rfl, ?_⟩
      rw [srStable_l3] at h
      refine W_seq ?_
      refine Vrs hT [0, 1] ⟨[(0, kH 0), (1, kI a1), (2, .c (.s (.v (.func (.func 75) #[] #[])))), (6, kI 20), (7, kI i7_23), (8, kI i8_15), (13, kB (decide (i8_15 ≤ a1)))], [(1000000, kH 0), (1000001, kH 1)], [⟨.row, 22, 1, js.length, .p 1 dg1000000_32⟩, ⟨(.dp false), 22, 1, l.length, .d (.by 5) l⟩]⟩ ?_
      refine Vi ((decide (i8_15 ≤ a1))) (fun g15 => ?_) (fun g15 => ?_)
      ·replace h := bif_t h g15
       refine W_skip ?_
       refine W_block ?_
       obtain ⟨r18_4, g13, h⟩ := bind_some' h
       refine Vgs hT (fM 4 (srIns_ok n r18_4) fN) [] [] [0, 1] ⟨[(0, kH 0), (1, kI a1), (2, .c (.s (.v (.func (.func 75) #[] #[])))), (6, kI 20), (8, kI i8_15)], [(1000000, kH 0), (1000001, kH 1)], [⟨.row, 22, 1, js.length, .p 1 r18_4⟩, ⟨(.dp false), 22, 1, l.length, .d (.by 5) l⟩]⟩ (aP g13 aN) ?_
       refine Vrs hT [0, 1] ⟨[(0, kH 0), (1, kI a1), (2, .c (.s (.v (.func (.func 75) #[] #[])))), (6, kI 20), (7, kI i8_15), (8, kI i8_15)], [(1000000, kH 0), (1000001, kH 1)], [⟨.row, 22, 1, js.length, .p 1 r18_4⟩, ⟨(.dp false), 22, 1, l.length, .d (.by 5) l⟩]⟩ ?_
       obtain ⟨g14, h⟩ := gd_some h
       refine Vg hT fN [] [] [0, 1] (srStable_l3_E l js a1 r18_4 i8_15 (i8_15 + 20)) (aP g14 aN) ?_
       exact ⟨_, _, _, rfl, h⟩
      ·replace h := bif_f h g15
       refine Vc [] [0, 1] (srStable_j1_E l js a1 dg1000000_32 i7_23) (W_exit ?_)
       exact ⟨_, _, rfl, h⟩
 ·cases ns with
  | nil => exact (show False from h).elim
  | cons a1 ns =>
   cases ns with
   | cons z ns => exact (show False from h).elim
   | nil =>
    exact Nat.le_of_ble_eq_true rfl
def srSort_R (l : List (List UInt8)) (js : List Nat) (r : List Nat) : S := ⟨[], [(1000000, kH 0), (1000001, kH 1)], [⟨.row, 22, 1, js.length, .p 1 r⟩, ⟨(.dp false), 22, 1, l.length, .d (.by 5) l⟩]⟩
def srSort_ct (n : Nat) (r : List Nat) : CtM := rwC 75 22 (fun l js ns => match ns with | [] => srSort n l js = some r | _ => False) r
theorem srSort_ok (n : Nat) (r : List Nat) : FnMOk Try.prog 74 (srSort_ct n r) := by
 refine fnokR (e' := 5) 9 (fun l js => srSort_R l js r) Try.func74 (fun w bs l js ns h => ?_) (fun l js ns h => ?_) (fun l js => ⟨_, rfl⟩)
 ·cases ns with
  | cons z ns => exact (show False from h).elim
  | nil =>
   have h : srSort n l js = some r := h
   unfold srSort at h
   have hT := tabO_psa
   obtain ⟨r8, g1, h⟩ := bind_some' h
   refine Vg hT (fM 4 (srStable_ok n r8) fN) [] [] [0, 1] (srSort_R l js r8) (aP g1 aN) ?_
   exact ⟨.inr rfl, by cases h; rfl⟩
 ·cases ns with
  | cons z ns => exact (show False from h).elim
  | nil =>
   exact Nat.le_of_ble_eq_true rfl
end Go.Proofs.Ytliilihbnhdemaa
end
section
namespace Go.Proofs.Ytliilihbnhdemaa
open Go.RowKit Go.Ch Go.Sx
theorem clp_info : (Try.prog.info? 22).map (fun i => (i.zero, i.size, i.bytes)) = some (some (.slice none 0 0), 1, 24) := by kernel_rfl
set_option maxHeartbeats 400000 in
set_option maxRecDepth 100000 in
theorem clonep_c (w : World) (B : Nat) (v : Value) (vs : List Value) (hv : Sl w B v vs) (h1 : ∀ u ∈ vs, u.oneCell' = true) (hl : vs.length ≤ 1000000000) :
  Calls Try.prog 73 #[v] w (Ret fun v' w' => Ext w w' ∧ Own w' w.heap.size 22 v' vs) := by
 obtain ⟨i22, hi22, hz22, hs22, hb22⟩ := info_parts clp_info
 go_enter Try.func73, Try.ntmps73
 go_wp2_with (first
  | ((with_reducible refine g_at (d := 4) ?_); refine wpl_eq_nil rfl Try.underlying82 hv ?_; intro b4 hb4; try (conv in (Act.put _ _ _) => simp only [Act.put, List.setIfInBounds_toArray, List.set_cons_succ, List.set_cons_zero]))
  | ((with_reducible refine g_at (d := 5) ?_); refine wpl_buildSlice (vs := []) Try.underlying82 hi22 hz22 hs22 rfl (xs := []) rfl rfl rfl (by simp) (by omega) ?_; intro v5 w5 h5 hx5 ha5; try (conv in (Act.put _ _ _) => simp only [Act.put, List.setIfInBounds_toArray, List.set_cons_succ, List.set_cons_zero]))
  | ((with_reducible refine g_at (d := 7) ?_); refine wpl_append (v := v5) rfl rfl Try.underlying82 hi22 hz22 hs22 hb22 rfl h5 (hv.ext hx5) h1 (by first | omega | (simp <;> omega)) (by omega) hx5.size ?_; intro v7 w7 h7 hg7 ha7 hx7; try (conv in (Act.put _ _ _) => simp only [Act.put, List.setIfInBounds_toArray, List.set_cons_succ, List.set_cons_zero])))
 ·go_ret
  have := hb4 (by assumption)
  exact ⟨_, rfl, Below.refl _ _, by rw [this]; exact World.ownsRow_nil _ _ _ _⟩
 ·go_ret
  exact ⟨_, rfl, hx5.trans hx7, by simpa using h7⟩
theorem own_slice {w : World} {B : Nat} {e : TypeId} {v : Value} {vs : List Value} (h : Own w B e v vs) : ∃ p : Pl, v = .slice p.A p.n p.cap ∧ p.sz = 1 ∧ p.n = vs.length ∧ ∀ g, (∃ ad, p.A = some ad ∧ ad.block = g) → B ≤ g := by
 have hn := h.1
 rcases h.2 with ⟨hv, hn0⟩ | ⟨g, cap, cur, hv, hg, _⟩
 ·exact ⟨pl4 none 0 0 1, hv, rfl, hn0.symm, fun g ⟨ad, had, _⟩ => by cases had⟩
 ·exact ⟨pl4 (some ⟨g, 0, none⟩) vs.length cap 1, hv, rfl, rfl, fun g' ⟨ad, had, he⟩ => by injection had with had; subst had; subst he; exact hg⟩
theorem own_up {w : World} {B B' : Nat} {e : TypeId} {v : Value} {n : Nat} {vs : List Value} (h : w.ownsRow B e 1 v n vs) (hb : ∀ g, v.ownBlock = some g → B' ≤ g) : Own w B' e v vs := by
 have hn := h.1
 rw [Nat.mul_one] at hn
 subst hn
 refine ⟨h.1, ?_⟩
 rcases h.2 with h0 | ⟨g, cap, cur, hv, hg, r⟩
 ·exact .inl h0
 ·exact .inr ⟨g, cap, cur, hv, hb g (by rw [hv]; rfl), r⟩
theorem sort_c (n : Nat) {l : List (List UInt8)} {js js' : List Nat} (h : srSort n l js = some js') {ρ : Pls} {j : Nat} {o2 : Oj} {b : Bool} {e' : TypeId} {w0 w : World} (hk : o2.kd = .dp b) (hc : o2.cs = .d (.by e') l) (ho : objR ρ w0 (ρ j) o2)
  (hx : Ext w0 w) {v : Value} {vs : List Value} (hown : Own w w0.heap.size 22 v vs) (hcs : csR ρ (.p j js) vs) :
  Calls Try.prog 74 #[v, .func (.func 75) #[] #[]] w (Ret fun _ w' => Ext w0 w' ∧ ∃ vs', Own w' w0.heap.size 22 v vs' ∧ csR ρ (.p j js') vs' ∧ vs'.length = vs.length) := by
 obtain ⟨p, rfl, p1, p2, p3⟩ := own_slice hown
 have hjl : vs.length = js.length := by have := hcs.1; simpa [Cs.cl] using this.symm
 let ρ1 : Pls := fun q => match q with | 0 => p | _ => ρ j
 let H1 : Hp := [⟨.row, 22, 1, js.length, .p 1 js⟩, ⟨.dp false, 22, 1, l.length, .d (.by e') l⟩]
 unfold objR at ho
 simp only [hk] at ho
 unfold DpR at ho
 rw [hc] at ho
 obtain ⟨⟨d1, d2, d3, d4⟩, d5, d6, d7⟩ := ho
 have hdp : ∀ ρ' : Pls, objR ρ' w0 (ρ j) ⟨.dp false, 22, 1, l.length, .d (.by e') l⟩ := fun ρ' => ⟨⟨d1.trans d4, d2.trans d3, rfl, rfl⟩, d5, d6, d7⟩
 have hp1 : HpR ρ1 w H1 := fun q o hq => by
  match q, hq with
  | 0, hq =>
   simp [H1] at hq; subst hq
   refine ⟨⟨p1, p2.trans hjl, by simp [Cs.cl]⟩, vs, gi_mono (ρ := ρ) (ρ' := ρ1) (j := j) (j' := 1) rfl hcs, ?_⟩
   have := hown.down (Nat.zero_le _)
   show w.ownsRow 0 _ 1 (.slice p.A p.n p.cap) p.n vs
   have e9 := p2
   rw [p2] at this ⊢
   exact this
  | 1, hq =>
   simp [H1] at hq; subst hq
   exact (hdp ρ1).keep fun g hg _ => hx.block g hg
  | q + 2, hq => simp [H1] at hq
 have hs1 : SepR ρ1 H1 := fun i1 j1 a c g hij hi hj hao hat hat2 => by
  match i1, hi with
  | 0, hi =>
   simp [H1] at hi; subst hi
   match j1, hj with
   | 0, _ => exact hij rfl
   | 1, hj =>
    simp [H1] at hj; subst hj
    have h1 := p3 g hat
    have h2 := d6 g hat2
    omega
   | q + 2, hj => simp [H1] at hj
  | 1, hi => simp [H1] at hi; subst hi; cases hao
  | q + 2, hi => simp [H1] at hi
 refine calls_mono ((srSort_ok n js').ct [kH 0, kFn 75] H1 _ _ _ _ rfl (allP_cons.2 ⟨h, allP_nil⟩) ρ1 w [.slice p.A p.n p.cap, .func (.func 75) #[] #[]] hp1 hs1 (F2.cons (show _ = _ from rfl) (F2.cons (show _ = _ from rfl) F2.nil))) fun v' w' ⟨hkp, ps, pu, hL⟩ => ?_
 have hcb : ∀ g, consB ρ1 H1 [(0, (⟨.row, 22, 1, js.length, .p 1 js'⟩ : Oj))] g → w0.heap.size ≤ g := fun g ⟨i1, o', o, hm, ho, _, hat⟩ => by
  simp only [List.mem_singleton, Prod.mk.injEq] at hm
  obtain ⟨rfl, _⟩ := hm
  simp [H1] at ho; subst ho
  exact p3 g hat
 refine ⟨⟨hkp.os.trans hx.os, hkp.tape.trans hx.tape, hkp.output.trans hx.output, Nat.le_trans hx.size hkp.size, fun k hk => (hkp.block k (Nat.lt_of_lt_of_le hk hx.size) fun hc => by have := hcb k hc; omega).trans (hx.block k hk)⟩, ?_⟩
 have hu := hL.upd 0 _ (List.mem_singleton.2 rfl)
 have hsm := hL.same 0 _ (List.mem_singleton.2 rfl)
 obtain ⟨⟨f1, f2, f3⟩, vs2, hc2, hrow2⟩ := hu
 have eA : (pu 0).A = p.A := hsm.A
 have en : (pu 0).n = p.n := hsm.n
 have ec : (pu 0).cap = p.cap := hsm.cap
 rw [eA, en, ec] at hrow2
 have hps : ps = [] := List.eq_nil_of_length_eq_zero hL.len
 subst hps
 refine ⟨vs2, own_up hrow2 fun g hg => ?_, ?_⟩
 ·cases hA : p.A with
  | none => rw [hA] at hg; cases hg
  | some ad =>
   rw [hA] at hg
   injection hg with hg
   exact p3 g ⟨ad, hA, hg⟩
 ·refine ⟨gi_mono (j := 1) (j' := j) rfl hc2, ?_⟩
  have h8 := hc2.len
  rw [f3] at h8
  rw [h8, hjl]
  exact Nat.mul_one _
theorem left_rowP {ρ : Pls} {w w' : World} {H : Hp} {v : Value} {e : TypeId} {vs : List Value} {cs : Cs} {n : Nat} (h : Own w' w.heap.size e v vs) (hc : csR ρ cs vs) (hlt : ltX H.length cs = true) (hn : vs.length = n) :
  ∃ ps, Go.Sx.Left ρ w H (.c (.wh H.length)) [⟨.row, e, 1, n, cs⟩] v w' ps := by
 obtain ⟨p, rfl, e1, e2, hp⟩ := own_slice h
 have hu : updL ρ H.length [p] (H.length + 0) = p := updL_at rfl
 rw [Nat.add_zero] at hu
 refine ⟨[p], rfl, fun k o q ho hq => ?_, ?_, fun k o q g ho hq hat => ?_, fun k l o o' q q' g hkl ho ho' => ?_⟩
 ·cases k with
  | zero =>
   simp at ho hq; subst ho; subst hq
   have hc' := ltX_ok (ρ' := updL ρ H.length [p]) updL_lt hlt hc
   refine ⟨⟨e1, e2.trans hn, by rw [← hc'.len, hn]; simp⟩, vs, hc', ?_⟩
   have := h.down (Nat.zero_le _)
   rw [e2] at this ⊢
   exact this
  | succ k => simp at ho
 ·show clR _ (.wh _) _
  simp only [clR, hu]
 ·cases k with
  | zero => simp at ho hq; subst ho; subst hq; exact .inl (hp g hat)
  | succ k => simp at ho
 ·cases k with
  | zero => cases l with
   | zero => exact absurd rfl hkl
   | succ l => simp at ho'
  | succ k => simp at ho
def sorted_ct (n : Nat) (js' : List Nat) : Ct := fun args H => match args with
 | [.c c] => (match vcs H c with
  | some (1, k, .p j js) => (match H[j]? with
   | some o2 => (match o2.kd, o2.cs with
    | .dp _, .d (.by _) l => some ([k ≤ 1000000000, srSort n l js = some js'], .c (.wh H.length), [⟨.row, 22, 1, k, .p j js'⟩])
    | _, _ => none)
   | none => none)
  | _ => none)
 | _ => none
set_option maxHeartbeats 400000 in
set_option maxRecDepth 100000 in
theorem sorted_c (n : Nat) {l : List (List UInt8)} {js js' : List Nat} (h : srSort n l js = some js') {ρ : Pls} {j : Nat} {o2 : Oj} {b : Bool} {e' : TypeId} {w : World} (hk : o2.kd = .dp b) (hc : o2.cs = .d (.by e') l) (ho : objR ρ w (ρ j) o2)
  {B : Nat} {v : Value} {vs : List Value} (hv : Sl w B v vs) (h1 : ∀ u ∈ vs, u.oneCell' = true) (hl : vs.length ≤ 1000000000) (hcs : csR ρ (.p j js) vs) :
  Calls Try.prog 45 #[v] w (Ret fun v' w' => Ext w w' ∧ ∃ vs', Own w' w.heap.size 22 v' vs' ∧ csR ρ (.p j js') vs' ∧ vs'.length = vs.length) := by
 go_enter Try.func45, Try.ntmps45
 go_wp2_with (first
  | ((with_reducible refine g_at (d := 5) ?_); refine wpl_call Try.func73 (by kernel_rfl) (by kernel_rfl) rfl (clonep_c w B v vs hv h1 hl) ?_; rintro v5 w5 ⟨hx5, h5⟩; try (conv in (Act.put _ _ _) => simp only [Act.put, List.setIfInBounds_toArray, List.set_cons_succ, List.set_cons_zero]))
  | ((with_reducible refine g_at (d := 7) ?_); refine wpl_call Try.func74 (by kernel_rfl) (by kernel_rfl) rfl (sort_c n h hk hc ho hx5 h5 hcs) ?_; rintro v7 w7 ⟨hx7, vs7, h7, hc7, hl7⟩; try (conv in (Act.put _ _ _) => simp only [Act.put, List.setIfInBounds_toArray, List.set_cons_succ, List.set_cons_zero])))
 go_ret
 exact ⟨_, rfl, hx7, vs7, h7, hc7, hl7⟩
theorem sorted_h (n : Nat) (js' : List Nat) : FnOk Try.prog Tr 45 (sorted_ct n js') := by
 refine ⟨fun args H g av objs hF hg ρ w vals hG hp ha => ?_, _, Try.func45, by kernel_rfl, by kernel_rfl⟩
 unfold sorted_ct at hF
 split at hF
 ·rename_i c
  split at hF
  ·rename_i k j js hvc
   split at hF
   ·rename_i o2 ho2
    split at hF
    ·rename_i b e' l hk2 hc2
     injection hF with hF
     simp only [Prod.mk.injEq] at hF
     obtain ⟨rfl, rfl, rfl⟩ := hF
     obtain ⟨v, vals, rfl, hv, ha⟩ := F2.inv ha
     obtain rfl := F2.inv0 ha
     obtain ⟨vs, hcs, hS⟩ := vcs_ok hp hvc hv
     have hlen : vs.length = k := by have := hS.1; omega
     have hg' : k ≤ 1000000000 ∧ srSort n l js = some js' := by simpa [allP] using hg
     have hsl := hS.sl
     refine calls_mono (sorted_c n hg'.2 hk2 hc2 (hp j o2 ho2) hsl (fun u hu => (okX_ok (cs := .p j js) rfl hcs u hu).2) (by omega) hcs) fun v' w' ⟨hx, vs', ho', hc', hl'⟩ => ⟨hx, left_rowP ho' hc' ?_ ?_⟩
     ·simp only [ltX, decide_eq_true_eq]
      exact (List.getElem?_eq_some_iff.1 ho2).1
     ·omega
    ·cases hF
   ·cases hF
  ·cases hF
 ·cases hF
end Go.Proofs.Ytliilihbnhdemaa
end
section
namespace Go.Proofs.Ytliilihbnhdemaa
open Go.RowKit Go.Ch Go.Sx
def tabL_psd : List (TypeId × Ti) := [(3, ⟨.int .i64, 1, 8, true, some [.int .i64]⟩),
 (4, ⟨.bool, 1, 1, true, some [.bool]⟩),
 (5, ⟨.int .u8, 1, 1, true, some [.int .u8]⟩),
 (9, ⟨.str, 1, 16, true, some [.str]⟩),
 (22, ⟨.sl 5, 1, 24, false, some [.nils]⟩),
 (28, ⟨.ifc, 1, 16, true, some [.ifc]⟩),
 (45, ⟨.st [(22, 0), (3, 1)], 2, 32, false, some [.nils, .int .i64]⟩),
 (70, ⟨.sl 89, 1, 24, false, some [.nils]⟩),
 (82, ⟨.sl 22, 1, 24, false, some [.nils]⟩),
 (89, ⟨.int .u32, 1, 4, true, some [.int .u32]⟩)]
def tab_psd : Tab := fun t => (tabL_psd).lookup t
theorem tabE_psd : (tabL_psd.map fun p => tiOf Try.prog p.1) = tabL_psd.map fun p => some p.2 := by kernel_rfl
theorem tabO_psd : TabOk Try.prog tab_psd := tab_of tabE_psd
def lPStays_l3 (n : Nat) (a0 : List UInt32) (a2 : List (List UInt8)) (r32 : Bool) (r55 : List UInt8 × Int × Option Int) (r60 : List UInt32 × Nat × Option Int) (r65 : List UInt32 × Option Int) (r115 : List UInt8 × Int × Option Int) (r120 : List UInt32 × Nat × Option Int) (r125 : List UInt32 × Option Int) (r130 : List UInt8 × Option Int) : Nat → List UInt8 → Int → Option (Bool)
 | 0, _, _ => none
 | fu_l3 + 1, l26_4, i29_4 =>
  bif (decide (i29_4 < ((r130.1.length : Nat) : Int))) then
   gd (0 ≤ i29_4) <|
   gd (i29_4 < ((r130.1.length : Nat) : Int)) <|
   gd (0 ≤ i29_4) <|
   gd (i29_4 < ((r130.1.length : Nat) : Int)) <|
   gd (okI .i64 (i29_4 + 1)) <|
   (lPStays_l3 n a0 a2 r32 r55 r60 r65 r115 r120 r125 r130 fu_l3) (l26_4.set i29_4.toNat ((l26_4.getD i29_4.toNat 0) + (1 : UInt8))) (i29_4 + 1)
  else
   (pBig n a0).bind fun r151 =>
   bif r32 then
    bif ((((List.range a2.length).length : Nat) : Int) == ((a2.length : Nat) : Int)) then
     bif (((r55.2.2).isNone) == ((r115.2.2).isNone)) then
      bif (r55.1 == r115.1) then
       bif (((r60.2.2).isNone) == ((r120.2.2).isNone)) then
        (rOf n r120.1).bind fun r184 =>
        (rSame n r60.1 r184.1).bind fun r185 =>
        bif r185 then
         bif (((r65.2).isNone) == ((r125.2).isNone)) then
          (lsame n r65.1 r125.1).bind fun r197 =>
          bif r197 then
           bif (((r130.2).isNone) == ((r151.2).isNone)) then
            some (r151.1 == r130.1)
           else
            some false
          else
           some false
         else
          some false
        else
         some false
       else
        some false
      else
       some false
     else
      some false
    else
     some false
   else
    some false
def lPStays_l2 (n : Nat) (a0 : List UInt32) (a1 : List UInt8) (a2 : List (List UInt8)) (r32 : Bool) (r55 : List UInt8 × Int × Option Int) (r60 : List UInt32 × Nat × Option Int) (r65 : List UInt32 × Option Int) : Nat → List UInt8 → Int → Option (Bool)
 | 0, _, _ => none
 | fu_l2 + 1, l8_4, i19_4 =>
  bif (decide (i19_4 < ((([] ++ a1).length : Nat) : Int))) then
   gd (0 ≤ i19_4) <|
   gd (i19_4 < ((([] ++ a1).length : Nat) : Int)) <|
   gd (0 ≤ i19_4) <|
   gd (i19_4 < ((([] ++ a1).length : Nat) : Int)) <|
   gd (okI .i64 (i19_4 + 1)) <|
   (lPStays_l2 n a0 a1 a2 r32 r55 r60 r65 fu_l2) (l8_4.set i19_4.toNat ((l8_4.getD i19_4.toNat 0) + (1 : UInt8))) (i19_4 + 1)
  else
   (pReadBits n a1).bind fun r115 =>
   (pReadBig n a1).bind fun r120 =>
   (pReadOid n a1).bind fun r125 =>
   (pBig n a0).bind fun r130 =>
   lPStays_l3 n a0 a2 r32 r55 r60 r65 r115 r120 r125 r130 n r130.1 0
def lPStays_l1 (n : Nat) (a0 : List UInt32) (a1 : List UInt8) (a2 : List (List UInt8)) (r32 : Bool) (r55 : List UInt8 × Int × Option Int) (r60 : List UInt32 × Nat × Option Int) (r65 : List UInt32 × Option Int) : Nat → Int → Option (Bool)
 | 0, _ => none
 | fu_l1 + 1, i18_4 =>
 bif (decide (i18_4 < ((a2.length : Nat) : Int))) then
 gd (0 ≤ i18_4) <|
 gd (i18_4 < (((List.range a2.length).length : Nat) : Int)) <|
 gd (0 ≤ i18_4) <|
 gd (i18_4 < ((a2.length : Nat) : Int)) <|
 bif ((a2.getD ((List.range a2.length).getD i18_4.toNat 0) []) != (a2.getD i18_4.toNat [])) then
 some false
 else
 gd (okI .i64 (i18_4 + 1)) <|
 (lPStays_l1 n a0 a1 a2 r32 r55 r60 r65 fu_l1) (i18_4 + 1)
 else
 lPStays_l2 n a0 a1 a2 r32 r55 r60 r65 n ([] ++ a1) 0
def lPStays_l6 (n : Nat) (a0 : List UInt32) (r32 : Bool) (r55 : List UInt8 × Int × Option Int) (r60 : List UInt32 × Nat × Option Int) (r65 : List UInt32 × Option Int) (r115 : List UInt8 × Int × Option Int) (r120 : List UInt32 × Nat × Option Int) (r125 : List UInt32 × Option Int) (r130 : List UInt8 × Option Int) : Nat → List UInt8 → Int → Option (Bool)
 | 0, _, _ => none
 | fu_l6 + 1, l26_5, i29_5 =>
  bif (decide (i29_5 < ((r130.1.length : Nat) : Int))) then
   gd (0 ≤ i29_5) <|
   gd (i29_5 < ((r130.1.length : Nat) : Int)) <|
   gd (0 ≤ i29_5) <|
   gd (i29_5 < ((r130.1.length : Nat) : Int)) <|
   gd (okI .i64 (i29_5 + 1)) <|
   (lPStays_l6 n a0 r32 r55 r60 r65 r115 r120 r125 r130 fu_l6) (l26_5.set i29_5.toNat ((l26_5.getD i29_5.toNat 0) + (1 : UInt8))) (i29_5 + 1)
  else
   (pBig n a0).bind fun r151 =>
   bif r32 then
    some false
   else
    some false
def lPStays_l5 (n : Nat) (a0 : List UInt32) (a1 : List UInt8) (r32 : Bool) (r55 : List UInt8 × Int × Option Int) (r60 : List UInt32 × Nat × Option Int) (r65 : List UInt32 × Option Int) : Nat → List UInt8 → Int → Option (Bool)
 | 0, _, _ => none
 | fu_l5 + 1, l8_5, i19_5 =>
  bif (decide (i19_5 < ((([] ++ a1).length : Nat) : Int))) then
   gd (0 ≤ i19_5) <|
   gd (i19_5 < ((([] ++ a1).length : Nat) : Int)) <|
   gd (0 ≤ i19_5) <|
   gd (i19_5 < ((([] ++ a1).length : Nat) : Int)) <|
   gd (okI .i64 (i19_5 + 1)) <|
   (lPStays_l5 n a0 a1 r32 r55 r60 r65 fu_l5) (l8_5.set i19_5.toNat ((l8_5.getD i19_5.toNat 0) + (1 : UInt8))) (i19_5 + 1)
  else
   (pReadBits n a1).bind fun r115 =>
   (pReadBig n a1).bind fun r120 =>
   (pReadOid n a1).bind fun r125 =>
   (pBig n a0).bind fun r130 =>
   lPStays_l6 n a0 r32 r55 r60 r65 r115 r120 r125 r130 n r130.1 0
def lPStays_l4 (n : Nat) (a0 : List UInt32) (a1 : List UInt8) (a2 : List (List UInt8)) (r32 : Bool) (r55 : List UInt8 × Int × Option Int) (r60 : List UInt32 × Nat × Option Int) (r65 : List UInt32 × Option Int) : Nat → Int → Option (Bool)
 | 0, _ => none
 | fu_l4 + 1, i18_5 =>
 bif (decide (i18_5 < ((a2.length : Nat) : Int))) then
 gd (0 ≤ i18_5) <|
 gd (i18_5 < (((List.range a2.length).length : Nat) : Int)) <|
 gd (0 ≤ i18_5) <|
 gd (i18_5 < ((a2.length : Nat) : Int)) <|
 bif ((a2.getD ((List.range a2.length).getD i18_5.toNat 0) []) != (a2.getD i18_5.toNat [])) then
 some false
 else
 gd (okI .i64 (i18_5 + 1)) <|
 (lPStays_l4 n a0 a1 a2 r32 r55 r60 r65 fu_l4) (i18_5 + 1)
 else
 lPStays_l5 n a0 a1 r32 r55 r60 r65 n ([] ++ a1) 0
def lPStays (n : Nat) (a0 : List UInt32) (a1 : List UInt8) (a2 : List (List UInt8)) : Option (Bool) :=
 (pup n).bind fun r32 =>
 bif (decide ((60 : Int) < ((a0.length : Nat) : Int))) then
  some r32
 else
  bif (decide ((300 : Int) < ((a1.length : Nat) : Int))) then
   some r32
  else
   bif (decide ((30 : Int) < ((a2.length : Nat) : Int))) then
    some r32
   else
    gd (rmB (0 + a1.length) 1) <|
    gd (rmB (0 + a2.length) 24) <|
    (pReadBits n ([] ++ a1)).bind fun r55 =>
    (pReadBig n ([] ++ a1)).bind fun r60 =>
    (pReadOid n ([] ++ a1)).bind fun r65 =>
    gd (((List.range a2.length).length) ≤ 1000000000) <|
    (srSort n a2 (List.range a2.length)).bind fun r69 =>
    bif (([] ++ a1) == a1) then
     lPStays_l1 n a0 a1 a2 r32 r55 r60 r65 n 0
    else
     lPStays_l4 n a0 a1 a2 r32 r55 r60 r65 n 0
def lPStays_l3_E (a0 : List UInt32) (a2 : List (List UInt8)) (r32 : Bool) (r55 : List UInt8 × Int × Option Int) (r60 : List UInt32 × Nat × Option Int) (r65 : List UInt32 × Option Int) (r115 : List UInt8 × Int × Option Int) (r120 : List UInt32 × Nat × Option Int) (r125 : List UInt32 × Option Int) (r130 : List UInt8 × Option Int) (l26_4 : List UInt8) (i29_4 : Int) : S := ⟨[(0, kH 0), (7, kB r32), (10, kP 1 0), (11, kE 31 r55.2.2), (12, kH 3), (13, kE 31 r60.2.2), (14, kH 4), (15, kE 31 r65.2), (17, kB ((((List.range a2.length).length : Nat) : Int) == ((a2.length : Nat) : Int))), (20, kP 5 0), (21, kE 31 r115.2.2), (22, kH 7), (23, kE 31 r120.2.2), (24, kH 8), (25, kE 31 r125.2), (26, kH 9), (27, kE 31 r130.2), (28, kT r130.1), (29, kI i29_4)], [], [ow 89 a0, ⟨.blk, 45, 1, 2, .c [.wh 2, .s (.k .i64 r55.2.1)]⟩, nb 5 r55.1, ⟨.row, 89, 1, r60.2.1, .w r60.1⟩, nw 89 r65.1, ⟨.blk, 45, 1, 2, .c [.wh 6, .s (.k .i64 r115.2.1)]⟩, nb 5 r115.1, ⟨.row, 89, 1, r120.2.1, .w r120.1⟩, nw 89 r125.1, ⟨.row, 5, 1, r130.1.length, .b l26_4⟩]⟩
abbrev lPStays_l3_P (n : Nat) (a0 : List UInt32) (a2 : List (List UInt8)) (r32 : Bool) (r55 : List UInt8 × Int × Option Int) (r60 : List UInt32 × Nat × Option Int) (r65 : List UInt32 × Option Int) (r115 : List UInt8 × Int × Option Int) (r120 : List UInt32 × Nat × Option Int) (r125 : List UInt32 × Option Int) (r130 : List UInt8 × Option Int) (r : Bool) (fu : Nat) : S → Prop := fun s => ∃ (l26_4 : List UInt8), ∃ (i29_4 : Int), s = lPStays_l3_E a0 a2 r32 r55 r60 r65 r115 r120 r125 r130 l26_4 i29_4 ∧ lPStays_l3 n a0 a2 r32 r55 r60 r65 r115 r120 r125 r130 fu l26_4 i29_4 = some r
def lPStays_l2_E (a0 : List UInt32) (a1 : List UInt8) (a2 : List (List UInt8)) (r32 : Bool) (r55 : List UInt8 × Int × Option Int) (r60 : List UInt32 × Nat × Option Int) (r65 : List UInt32 × Option Int) (l8_4 : List UInt8) (i19_4 : Int) : S := ⟨[(0, kH 0), (1, kH 1), (7, kB r32), (8, kH 2), (10, kP 3 0), (11, kE 31 r55.2.2), (12, kH 5), (13, kE 31 r60.2.2), (14, kH 6), (15, kE 31 r65.2), (17, kB ((((List.range a2.length).length : Nat) : Int) == ((a2.length : Nat) : Int))), (19, kI i19_4)], [], [ow 89 a0, ob 5 a1, ⟨.row, 5, 1, ([] ++ a1).length, .b l8_4⟩, ⟨.blk, 45, 1, 2, .c [.wh 4, .s (.k .i64 r55.2.1)]⟩, nb 5 r55.1, ⟨.row, 89, 1, r60.2.1, .w r60.1⟩, nw 89 r65.1]⟩
abbrev lPStays_l2_P (n : Nat) (a0 : List UInt32) (a1 : List UInt8) (a2 : List (List UInt8)) (r32 : Bool) (r55 : List UInt8 × Int × Option Int) (r60 : List UInt32 × Nat × Option Int) (r65 : List UInt32 × Option Int) (r : Bool) (fu : Nat) : S → Prop := fun s => ∃ (l8_4 : List UInt8), ∃ (i19_4 : Int), s = lPStays_l2_E a0 a1 a2 r32 r55 r60 r65 l8_4 i19_4 ∧ lPStays_l2 n a0 a1 a2 r32 r55 r60 r65 fu l8_4 i19_4 = some r
def lPStays_l1_E (a0 : List UInt32) (a1 : List UInt8) (a2 : List (List UInt8)) (r32 : Bool) (r55 : List UInt8 × Int × Option Int) (r60 : List UInt32 × Nat × Option Int) (r65 : List UInt32 × Option Int) (i18_4 : Int) : S := ⟨[(0, kH 0), (1, kH 1), (2, kH 2), (7, kB r32), (8, kH 3), (9, kH 4), (10, kP 5 0), (11, kE 31 r55.2.2), (12, kH 7), (13, kE 31 r60.2.2), (14, kH 8), (15, kE 31 r65.2), (17, kB ((((List.range a2.length).length : Nat) : Int) == ((a2.length : Nat) : Int))), (18, kI i18_4)], [], [ow 89 a0, ob 5 a1, ⟨(.dp false), 22, 1, a2.length, .d (.by 5) a2⟩, nb 5 ([] ++ a1), ⟨.row, 22, 1, (List.range a2.length).length, .p 2 (List.range a2.length)⟩, ⟨.blk, 45, 1, 2, .c [.wh 6, .s (.k .i64 r55.2.1)]⟩, nb 5 r55.1, ⟨.row, 89, 1, r60.2.1, .w r60.1⟩, nw 89 r65.1]⟩
abbrev lPStays_l1_P (n : Nat) (a0 : List UInt32) (a1 : List UInt8) (a2 : List (List UInt8)) (r32 : Bool) (r55 : List UInt8 × Int × Option Int) (r60 : List UInt32 × Nat × Option Int) (r65 : List UInt32 × Option Int) (r : Bool) (fu : Nat) : S → Prop := fun s => ∃ (i18_4 : Int), s = lPStays_l1_E a0 a1 a2 r32 r55 r60 r65 i18_4 ∧ lPStays_l1 n a0 a1 a2 r32 r55 r60 r65 fu i18_4 = some r
def lPStays_l6_E (a0 : List UInt32) (r32 : Bool) (r55 : List UInt8 × Int × Option Int) (r60 : List UInt32 × Nat × Option Int) (r65 : List UInt32 × Option Int) (r115 : List UInt8 × Int × Option Int) (r120 : List UInt32 × Nat × Option Int) (r125 : List UInt32 × Option Int) (r130 : List UInt8 × Option Int) (l26_5 : List UInt8) (i29_5 : Int) : S := ⟨[(0, kH 0), (7, kB r32), (10, kP 1 0), (11, kE 31 r55.2.2), (12, kH 3), (13, kE 31 r60.2.2), (14, kH 4), (15, kE 31 r65.2), (17, kB false), (20, kP 5 0), (21, kE 31 r115.2.2), (22, kH 7), (23, kE 31 r120.2.2), (24, kH 8), (25, kE 31 r125.2), (26, kH 9), (27, kE 31 r130.2), (28, kT r130.1), (29, kI i29_5)], [], [ow 89 a0, ⟨.blk, 45, 1, 2, .c [.wh 2, .s (.k .i64 r55.2.1)]⟩, nb 5 r55.1, ⟨.row, 89, 1, r60.2.1, .w r60.1⟩, nw 89 r65.1, ⟨.blk, 45, 1, 2, .c [.wh 6, .s (.k .i64 r115.2.1)]⟩, nb 5 r115.1, ⟨.row, 89, 1, r120.2.1, .w r120.1⟩, nw 89 r125.1, ⟨.row, 5, 1, r130.1.length, .b l26_5⟩]⟩
abbrev lPStays_l6_P (n : Nat) (a0 : List UInt32) (r32 : Bool) (r55 : List UInt8 × Int × Option Int) (r60 : List UInt32 × Nat × Option Int) (r65 : List UInt32 × Option Int) (r115 : List UInt8 × Int × Option Int) (r120 : List UInt32 × Nat × Option Int) (r125 : List UInt32 × Option Int) (r130 : List UInt8 × Option Int) (r : Bool) (fu : Nat) : S → Prop := fun s => ∃ (l26_5 : List UInt8), ∃ (i29_5 : Int), s = lPStays_l6_E a0 r32 r55 r60 r65 r115 r120 r125 r130 l26_5 i29_5 ∧ lPStays_l6 n a0 r32 r55 r60 r65 r115 r120 r125 r130 fu l26_5 i29_5 = some r
def lPStays_l5_E (a0 : List UInt32) (a1 : List UInt8) (r32 : Bool) (r55 : List UInt8 × Int × Option Int) (r60 : List UInt32 × Nat × Option Int) (r65 : List UInt32 × Option Int) (l8_5 : List UInt8) (i19_5 : Int) : S := ⟨[(0, kH 0), (1, kH 1), (7, kB r32), (8, kH 2), (10, kP 3 0), (11, kE 31 r55.2.2), (12, kH 5), (13, kE 31 r60.2.2), (14, kH 6), (15, kE 31 r65.2), (17, kB false), (19, kI i19_5)], [], [ow 89 a0, ob 5 a1, ⟨.row, 5, 1, ([] ++ a1).length, .b l8_5⟩, ⟨.blk, 45, 1, 2, .c [.wh 4, .s (.k .i64 r55.2.1)]⟩, nb 5 r55.1, ⟨.row, 89, 1, r60.2.1, .w r60.1⟩, nw 89 r65.1]⟩
abbrev lPStays_l5_P (n : Nat) (a0 : List UInt32) (a1 : List UInt8) (r32 : Bool) (r55 : List UInt8 × Int × Option Int) (r60 : List UInt32 × Nat × Option Int) (r65 : List UInt32 × Option Int) (r : Bool) (fu : Nat) : S → Prop := fun s => ∃ (l8_5 : List UInt8), ∃ (i19_5 : Int), s = lPStays_l5_E a0 a1 r32 r55 r60 r65 l8_5 i19_5 ∧ lPStays_l5 n a0 a1 r32 r55 r60 r65 fu l8_5 i19_5 = some r
def lPStays_l4_E (a0 : List UInt32) (a1 : List UInt8) (a2 : List (List UInt8)) (r32 : Bool) (r55 : List UInt8 × Int × Option Int) (r60 : List UInt32 × Nat × Option Int) (r65 : List UInt32 × Option Int) (i18_5 : Int) : S := ⟨[(0, kH 0), (1, kH 1), (2, kH 2), (7, kB r32), (8, kH 3), (9, kH 4), (10, kP 5 0), (11, kE 31 r55.2.2), (12, kH 7), (13, kE 31 r60.2.2), (14, kH 8), (15, kE 31 r65.2), (17, kB false), (18, kI i18_5)], [], [ow 89 a0, ob 5 a1, ⟨(.dp false), 22, 1, a2.length, .d (.by 5) a2⟩, nb 5 ([] ++ a1), ⟨.row, 22, 1, (List.range a2.length).length, .p 2 (List.range a2.length)⟩, ⟨.blk, 45, 1, 2, .c [.wh 6, .s (.k .i64 r55.2.1)]⟩, nb 5 r55.1, ⟨.row, 89, 1, r60.2.1, .w r60.1⟩, nw 89 r65.1]⟩
abbrev lPStays_l4_P (n : Nat) (a0 : List UInt32) (a1 : List UInt8) (a2 : List (List UInt8)) (r32 : Bool) (r55 : List UInt8 × Int × Option Int) (r60 : List UInt32 × Nat × Option Int) (r65 : List UInt32 × Option Int) (r : Bool) (fu : Nat) : S → Prop := fun s => ∃ (i18_5 : Int), s = lPStays_l4_E a0 a1 a2 r32 r55 r60 r65 i18_5 ∧ lPStays_l4 n a0 a1 a2 r32 r55 r60 r65 fu i18_5 = some r
def lPStays_R (r : Bool) : S := ⟨[(6, kB r)], [], []⟩
def lPStays_ct (n : Nat) (r : Bool) : Ct := ctc (rW 89).rd fun _ l0 => ctc (rB 5).rd fun _ l1 => ctc (rD 22 (.by 5)).rd fun _ l2 => ct0 fun H => ([lPStays n l0 l1 l2 = some r], shA H.length (kB r), shH H.length [])
theorem lPStays_ok (n : Nat) (r : Bool) : FnOk Try.prog Tr 13 (lPStays_ct n r) := by
 refine fnok Try.func13 ?_
 refine HO_c (rW 89) fun l0 _ => HO_c (rB 5) fun l1 _ => HO_c (rD 22 (.by 5)) fun (l2 : List (List UInt8)) _ => HO_0 tabO_psd (lPStays_R r) [.tmp 6] [] 212 Try.func13 fun w hG h => ?_
 unfold lPStays at h
 have hT := tabO_psd
 refine Vrs hT [0, 1, 2] ⟨[(0, kH 0), (1, kH 1), (2, kH 2)], [], [ow 89 l0, ob 5 l1, ⟨(.dp false), 22, 1, l2.length, .d (.by 5) l2⟩]⟩ ?_
 obtain ⟨r32, g1, h⟩ := bind_some' h
 refine Vgs hT (fT 0 (pup_ok n r32) fN) [] [] [0, 1, 2] ⟨[(0, kH 0), (1, kH 1), (2, kH 2), (7, kB r32)], [], [ow 89 l0, ob 5 l1, ⟨(.dp false), 22, 1, l2.length, .d (.by 5) l2⟩]⟩ (aP g1 aN) ?_
 refine W_seq ?_
 refine W_seq ?_
 rcases Bool.eq_false_or_eq_true (decide ((60 : Int) < ((l0.length : Nat) : Int))) with g2 | g2
 ·replace h := bif_t h g2
  refine Vg hT fN [(3, true)] [] [0, 1, 2] ⟨[(0, kH 0), (1, kH 1), (2, kH 2), (7, kB r32), (45, kB true)], [], [ow 89 l0, ob 5 l1, ⟨(.dp false), 22, 1, l2.length, .d (.by 5) l2⟩]⟩ (aP g2 aN) ?_
  refine Vi (true) (fun _ => ?_) (fun hb => by cases hb)
  refine Vrs hT [] ⟨[(6, kB r32)], [], []⟩ ?_
  refine Vc [] [] (lPStays_R r32) (W_ret ?_)
  exact ⟨.inl rfl, by cases h; rfl⟩
 ·replace h := bif_f h g2
  rcases Bool.eq_false_or_eq_true (decide ((300 : Int) < ((l1.length : Nat) : Int))) with g3 | g3
  ·replace h := bif_t h g3
   refine Vg hT fN [(3, false), (8, true)] [] [0, 1, 2] ⟨[(0, kH 0), (1, kH 1), (2, kH 2), (7, kB r32), (45, kB true)], [], [ow 89 l0, ob 5 l1, ⟨(.dp false), 22, 1, l2.length, .d (.by 5) l2⟩]⟩ (aP g2 (aP g3 aN)) ?_
   refine Vi (true) (fun _ => ?_) (fun hb => by cases hb)
   refine Vrs hT [] ⟨[(6, kB r32)], [], []⟩ ?_
   refine Vc [] [] (lPStays_R r32) (W_ret ?_)
   exact ⟨.inl rfl, by cases h; rfl⟩
  ·replace h := bif_f h g3
   refine Vg hT fN [(3, false), (8, false)] [] [0, 1, 2] ⟨[(0, kH 0), (1, kH 1), (2, kH 2), (7, kB r32), (45, kB (decide ((30 : Int) < ((l2.length : Nat) : Int))))], [], [ow 89 l0, ob 5 l1, ⟨(.dp false), 22, 1, l2.length, .d (.by 5) l2⟩]⟩ (aP g2 (aP g3 aN)) ?_
   refine Vi ((decide ((30 : Int) < ((l2.length : Nat) : Int)))) (fun g73 => ?_) (fun g73 => ?_)
   ·replace h := bif_t h g73
    refine Vrs hT [] ⟨[(6, kB r32)], [], []⟩ ?_
    refine Vc [] [] (lPStays_R r32) (W_ret ?_)
    exact ⟨.inl rfl, by cases h; rfl⟩
   ·replace h := bif_f h g73
    refine W_skip ?_
    obtain ⟨g4, h⟩ := gd_some h
    refine Vgs hT fN [] [] [0, 1, 2, 4] ⟨[(0, kH 0), (1, kH 1), (2, kH 2), (7, kB r32), (8, kH 3)], [], [ow 89 l0, ob 5 l1, ⟨(.dp false), 22, 1, l2.length, .d (.by 5) l2⟩, nb 5 ([] ++ l1)]⟩ (aP g4 aN) ?_
    obtain ⟨g5, h⟩ := gd_some h
    refine Vgs hT fN [] [] [0, 1, 2, 3, 5] ⟨[(0, kH 0), (1, kH 1), (2, kH 2), (7, kB r32), (8, kH 3), (9, kH 4)], [], [ow 89 l0, ob 5 l1, ⟨(.dp false), 22, 1, l2.length, .d (.by 5) l2⟩, nb 5 ([] ++ l1), ⟨.row, 22, 1, (List.range l2.length).length, .p 2 (List.range l2.length)⟩]⟩ (aP g5 aN) ?_
    obtain ⟨r55, g6, h⟩ := bind_some' h
    refine Vgs hT (fT 1 (pReadBits_ok n r55) fN) [] [] [0, 1, 2, 3, 4, 6, 5] ⟨[(0, kH 0), (1, kH 1), (2, kH 2), (7, kB r32), (8, kH 3), (9, kH 4), (10, kP 5 0), (11, kE 31 r55.2.2)], [], [ow 89 l0, ob 5 l1, ⟨(.dp false), 22, 1, l2.length, .d (.by 5) l2⟩, nb 5 ([] ++ l1), ⟨.row, 22, 1, (List.range l2.length).length, .p 2 (List.range l2.length)⟩, ⟨.blk, 45, 1, 2, .c [.wh 6, .s (.k .i64 r55.2.1)]⟩, nb 5 r55.1]⟩ (aP g6 aN) ?_
    obtain ⟨r60, g7, h⟩ := bind_some' h
    refine Vgs hT (fT 1 (pReadBig_ok n r60) fN) [] [] [0, 1, 2, 3, 4, 5, 6, 7] ⟨[(0, kH 0), (1, kH 1), (2, kH 2), (7, kB r32), (8, kH 3), (9, kH 4), (10, kP 5 0), (11, kE 31 r55.2.2), (12, kH 7), (13, kE 31 r60.2.2)], [], [ow 89 l0, ob 5 l1, ⟨(.dp false), 22, 1, l2.length, .d (.by 5) l2⟩, nb 5 ([] ++ l1), ⟨.row, 22, 1, (List.range l2.length).length, .p 2 (List.range l2.length)⟩, ⟨.blk, 45, 1, 2, .c [.wh 6, .s (.k .i64 r55.2.1)]⟩, nb 5 r55.1, ⟨.row, 89, 1, r60.2.1, .w r60.1⟩]⟩ (aP g7 aN) ?_
    obtain ⟨r65, g8, h⟩ := bind_some' h
    refine Vgs hT (fT 1 (pReadOid_ok n r65) fN) [] [] [0, 1, 2, 3, 4, 5, 6, 7, 8] ⟨[(0, kH 0), (1, kH 1), (2, kH 2), (7, kB r32), (8, kH 3), (9, kH 4), (10, kP 5 0), (11, kE 31 r55.2.2), (12, kH 7), (13, kE 31 r60.2.2), (14, kH 8), (15, kE 31 r65.2)], [], [ow 89 l0, ob 5 l1, ⟨(.dp false), 22, 1, l2.length, .d (.by 5) l2⟩, nb 5 ([] ++ l1), ⟨.row, 22, 1, (List.range l2.length).length, .p 2 (List.range l2.length)⟩, ⟨.blk, 45, 1, 2, .c [.wh 6, .s (.k .i64 r55.2.1)]⟩, nb 5 r55.1, ⟨.row, 89, 1, r60.2.1, .w r60.1⟩, nw 89 r65.1]⟩ (aP g8 aN) ?_
    obtain ⟨g9, h⟩ := gd_some h
    obtain ⟨r69, g10, h⟩ := bind_some' h
    refine Vgs hT (fT 1 (sorted_h n r69) fN) [] [] [0, 1, 2, 3, 4, 5, 6, 7, 8, 9] ⟨[(0, kH 0), (1, kH 1), (2, kH 2), (7, kB r32), (8, kH 3), (9, kH 4), (10, kP 5 0), (11, kE 31 r55.2.2), (12, kH 7), (13, kE 31 r60.2.2), (14, kH 8), (15, kE 31 r65.2), (16, kH 9)], [], [ow 89 l0, ob 5 l1, ⟨(.dp false), 22, 1, l2.length, .d (.by 5) l2⟩, nb 5 ([] ++ l1), ⟨.row, 22, 1, (List.range l2.length).length, .p 2 (List.range l2.length)⟩, ⟨.blk, 45, 1, 2, .c [.wh 6, .s (.k .i64 r55.2.1)]⟩, nb 5 r55.1, ⟨.row, 89, 1, r60.2.1, .w r60.1⟩, nw 89 r65.1, ⟨.row, 22, 1, (List.range l2.length).length, .p 2 r69⟩]⟩ (aP g9 (aP g10 aN)) ?_
    refine W_seq ?_
    rcases Bool.eq_false_or_eq_true (([] ++ l1) == l1) with g11 | g11
    ·replace h := bif_t h g11
     refine Vg hT fN [(5, true)] [] [0, 1, 2, 3, 4, 5, 6, 7, 8] ⟨[(0, kH 0), (1, kH 1), (2, kH 2), (7, kB r32), (8, kH 3), (9, kH 4), (10, kP 5 0), (11, kE 31 r55.2.2), (12, kH 7), (13, kE 31 r60.2.2), (14, kH 8), (15, kE 31 r65.2), (17, kB ((((List.range l2.length).length : Nat) : Int) == ((l2.length : Nat) : Int)))], [], [ow 89 l0, ob 5 l1, ⟨(.dp false), 22, 1, l2.length, .d (.by 5) l2⟩, nb 5 ([] ++ l1), ⟨.row, 22, 1, (List.range l2.length).length, .p 2 (List.range l2.length)⟩, ⟨.blk, 45, 1, 2, .c [.wh 6, .s (.k .i64 r55.2.1)]⟩, nb 5 r55.1, ⟨.row, 89, 1, r60.2.1, .w r60.1⟩, nw 89 r65.1]⟩ (aP g11 aN) ?_
     refine W_seq ?_
     refine Vrs hT [0, 1, 2, 3, 4, 5, 6, 7, 8] ⟨[(0, kH 0), (1, kH 1), (2, kH 2), (7, kB r32), (8, kH 3), (9, kH 4), (10, kP 5 0), (11, kE 31 r55.2.2), (12, kH 7), (13, kE 31 r60.2.2), (14, kH 8), (15, kE 31 r65.2), (17, kB ((((List.range l2.length).length : Nat) : Int) == ((l2.length : Nat) : Int))), (18, kI 0)], [], [ow 89 l0, ob 5 l1, ⟨(.dp false), 22, 1, l2.length, .d (.by 5) l2⟩, nb 5 ([] ++ l1), ⟨.row, 22, 1, (List.range l2.length).length, .p 2 (List.range l2.length)⟩, ⟨.blk, 45, 1, 2, .c [.wh 6, .s (.k .i64 r55.2.1)]⟩, nb 5 r55.1, ⟨.row, 89, 1, r60.2.1, .w r60.1⟩, nw 89 r65.1]⟩ ?_
     refine W_block ?_
     refine Vc [] [0, 1, 2, 3, 4, 5, 6, 7, 8] (lPStays_l1_E l0 l1 l2 r32 r55 r60 r65 0) (W_lp ((lPStays_l1_P n l0 l1 l2 r32 r55 r60 r65 r)) n ⟨_, rfl, h⟩ ?_)
     rintro fu_l1 _ ⟨i18_4, rfl, h⟩
     cases fu_l1 with
     | zero => cases h
     | succ fu_l1 =>
      refine ⟨fu_l1, rfl, ?_⟩
      rw [lPStays_l1] at h
      refine W_seq ?_
      refine Vrs hT [0, 1, 2, 3, 4, 5, 6, 7, 8] ⟨[(0, kH 0), (1, kH 1), (2, kH 2), (7, kB r32), (8, kH 3), (9, kH 4), (10, kP 5 0), (11, kE 31 r55.2.2), (12, kH 7), (13, kE 31 r60.2.2), (14, kH 8), (15, kE 31 r65.2), (17, kB ((((List.range l2.length).length : Nat) : Int) == ((l2.length : Nat) : Int))), (18, kI i18_4), (85, kB (decide (i18_4 < ((l2.length : Nat) : Int))))], [], [ow 89 l0, ob 5 l1, ⟨(.dp false), 22, 1, l2.length, .d (.by 5) l2⟩, nb 5 ([] ++ l1), ⟨.row, 22, 1, (List.range l2.length).length, .p 2 (List.range l2.length)⟩, ⟨.blk, 45, 1, 2, .c [.wh 6, .s (.k .i64 r55.2.1)]⟩, nb 5 r55.1, ⟨.row, 89, 1, r60.2.1, .w r60.1⟩, nw 89 r65.1]⟩ ?_
      refine Vi ((decide (i18_4 < ((l2.length : Nat) : Int)))) (fun g47 => ?_) (fun g47 => ?_)
      ·replace h := bif_t h g47
       refine W_skip ?_
       refine W_seq ?_
       refine W_block ?_
       obtain ⟨g12, g13, g14, g15, h⟩ := gd4 h
       refine Vds hT fN 10 [] [(0, false), (1, false), (2, false), (7, false), (8, false), (9, false), (10, false), (11, false), (12, false), (13, false), (14, false), (15, false), (17, false), (18, false), (92, false), (97, false)] [] [0, 1, 2, 3, 4, 5, 6, 7, 8] ⟨[(0, kH 0), (1, kH 1), (2, kH 2), (7, kB r32), (8, kH 3), (9, kH 4), (10, kP 5 0), (11, kE 31 r55.2.2), (12, kH 7), (13, kE 31 r60.2.2), (14, kH 8), (15, kE 31 r65.2), (17, kB ((((List.range l2.length).length : Nat) : Int) == ((l2.length : Nat) : Int))), (18, kI i18_4), (98, kB ((l2.getD ((List.range l2.length).getD i18_4.toNat 0) []) != (l2.getD i18_4.toNat [])))], [], [ow 89 l0, ob 5 l1, ⟨(.dp false), 22, 1, l2.length, .d (.by 5) l2⟩, nb 5 ([] ++ l1), ⟨.row, 22, 1, (List.range l2.length).length, .p 2 (List.range l2.length)⟩, ⟨.blk, 45, 1, 2, .c [.wh 6, .s (.k .i64 r55.2.1)]⟩, nb 5 r55.1, ⟨.row, 89, 1, r60.2.1, .w r60.1⟩, nw 89 r65.1]⟩ (aP g12 (aP g13 (aP g14 (aP g15 aN)))) ?_
       refine Vi (((l2.getD ((List.range l2.length).getD i18_4.toNat 0) []) != (l2.getD i18_4.toNat []))) (fun g17 => ?_) (fun g17 => ?_)
       ·replace h := bif_t h g17
        refine Vrs hT [] ⟨[(6, kB false)], [], []⟩ ?_
        refine Vc [] [] (lPStays_R false) (W_ret ?_)
        exact ⟨.inl rfl, by cases h; rfl⟩
       ·replace h := bif_f h g17
        refine W_skip ?_
        obtain ⟨g16, h⟩ := gd_some h
        refine Vg hT fN [] [] [0, 1, 2, 3, 4, 5, 6, 7, 8] (lPStays_l1_E l0 l1 l2 r32 r55 r60 r65 (i18_4 + 1)) (aP g16 aN) ?_
        exact ⟨_, rfl, h⟩
      ·replace h := bif_f h g47
       refine Vc [] [0, 1, 3, 5, 6, 7, 8] ⟨[(0, kH 0), (1, kH 1), (7, kB r32), (8, kH 2), (10, kP 3 0), (11, kE 31 r55.2.2), (12, kH 5), (13, kE 31 r60.2.2), (14, kH 6), (15, kE 31 r65.2), (17, kB ((((List.range l2.length).length : Nat) : Int) == ((l2.length : Nat) : Int)))], [], [ow 89 l0, ob 5 l1, nb 5 ([] ++ l1), ⟨.blk, 45, 1, 2, .c [.wh 4, .s (.k .i64 r55.2.1)]⟩, nb 5 r55.1, ⟨.row, 89, 1, r60.2.1, .w r60.1⟩, nw 89 r65.1]⟩ (W_exit ?_)
       refine W_seq ?_
       refine Vrs hT [0, 1, 2, 3, 4, 5, 6] ⟨[(0, kH 0), (1, kH 1), (7, kB r32), (8, kH 2), (10, kP 3 0), (11, kE 31 r55.2.2), (12, kH 5), (13, kE 31 r60.2.2), (14, kH 6), (15, kE 31 r65.2), (17, kB ((((List.range l2.length).length : Nat) : Int) == ((l2.length : Nat) : Int))), (19, kI 0)], [], [ow 89 l0, ob 5 l1, nb 5 ([] ++ l1), ⟨.blk, 45, 1, 2, .c [.wh 4, .s (.k .i64 r55.2.1)]⟩, nb 5 r55.1, ⟨.row, 89, 1, r60.2.1, .w r60.1⟩, nw 89 r65.1]⟩ ?_
       refine W_block ?_
       refine Vc [] [0, 1, 2, 3, 4, 5, 6] (lPStays_l2_E l0 l1 l2 r32 r55 r60 r65 ([] ++ l1) 0) (W_lp ((lPStays_l2_P n l0 l1 l2 r32 r55 r60 r65 r)) n ⟨_, _, rfl, h⟩ ?_)
       rintro fu_l2 _ ⟨l8_4, i19_4, rfl, h⟩
       cases fu_l2 with
       | zero => cases h
       | succ fu_l2 =>
        refine ⟨fu_l2, rfl, ?_⟩
        rw [lPStays_l2] at h
        refine W_seq ?_
        refine Vrs hT [0, 1, 2, 3, 4, 5, 6] ⟨[(0, kH 0), (1, kH 1), (7, kB r32), (8, kH 2), (10, kP 3 0), (11, kE 31 r55.2.2), (12, kH 5), (13, kE 31 r60.2.2), (14, kH 6), (15, kE 31 r65.2), (17, kB ((((List.range l2.length).length : Nat) : Int) == ((l2.length : Nat) : Int))), (19, kI i19_4), (102, kB (decide (i19_4 < ((([] ++ l1).length : Nat) : Int))))], [], [ow 89 l0, ob 5 l1, ⟨.row, 5, 1, ([] ++ l1).length, .b l8_4⟩, ⟨.blk, 45, 1, 2, .c [.wh 4, .s (.k .i64 r55.2.1)]⟩, nb 5 r55.1, ⟨.row, 89, 1, r60.2.1, .w r60.1⟩, nw 89 r65.1]⟩ ?_
        refine Vi ((decide (i19_4 < ((([] ++ l1).length : Nat) : Int)))) (fun g46 => ?_) (fun g46 => ?_)
        ·replace h := bif_t h g46
         refine W_skip ?_
         refine W_seq ?_
         refine W_block ?_
         obtain ⟨g18, g19, g20, g21, h⟩ := gd4 h
         refine Vg hT fN [] [] [0, 1, 2, 3, 4, 5, 6] ⟨[(0, kH 0), (1, kH 1), (7, kB r32), (8, kH 2), (10, kP 3 0), (11, kE 31 r55.2.2), (12, kH 5), (13, kE 31 r60.2.2), (14, kH 6), (15, kE 31 r65.2), (17, kB ((((List.range l2.length).length : Nat) : Int) == ((l2.length : Nat) : Int))), (19, kI i19_4)], [], [ow 89 l0, ob 5 l1, ⟨.row, 5, 1, ([] ++ l1).length, .b (l8_4.set i19_4.toNat ((l8_4.getD i19_4.toNat 0) + (1 : UInt8)))⟩, ⟨.blk, 45, 1, 2, .c [.wh 4, .s (.k .i64 r55.2.1)]⟩, nb 5 r55.1, ⟨.row, 89, 1, r60.2.1, .w r60.1⟩, nw 89 r65.1]⟩ (aP g18 (aP g19 (aP g20 (aP g21 aN)))) ?_
         obtain ⟨g22, h⟩ := gd_some h
         refine Vg hT fN [] [] [0, 1, 2, 3, 4, 5, 6] (lPStays_l2_E l0 l1 l2 r32 r55 r60 r65 (l8_4.set i19_4.toNat ((l8_4.getD i19_4.toNat 0) + (1 : UInt8))) (i19_4 + 1)) (aP g22 aN) ?_
         exact ⟨_, _, rfl, h⟩
        ·replace h := bif_f h g46
         refine Vc [] [0, 1, 3, 4, 5, 6] ⟨[(0, kH 0), (1, kH 1), (7, kB r32), (10, kP 2 0), (11, kE 31 r55.2.2), (12, kH 4), (13, kE 31 r60.2.2), (14, kH 5), (15, kE 31 r65.2), (17, kB ((((List.range l2.length).length : Nat) : Int) == ((l2.length : Nat) : Int)))], [], [ow 89 l0, ob 5 l1, ⟨.blk, 45, 1, 2, .c [.wh 3, .s (.k .i64 r55.2.1)]⟩, nb 5 r55.1, ⟨.row, 89, 1, r60.2.1, .w r60.1⟩, nw 89 r65.1]⟩ (W_exit ?_)
         obtain ⟨r115, g23, h⟩ := bind_some' h
         refine Vgs hT (fT 1 (pReadBits_ok n r115) fN) [] [] [0, 1, 2, 3, 4, 5, 7, 6] ⟨[(0, kH 0), (1, kH 1), (7, kB r32), (10, kP 2 0), (11, kE 31 r55.2.2), (12, kH 4), (13, kE 31 r60.2.2), (14, kH 5), (15, kE 31 r65.2), (17, kB ((((List.range l2.length).length : Nat) : Int) == ((l2.length : Nat) : Int))), (20, kP 6 0), (21, kE 31 r115.2.2)], [], [ow 89 l0, ob 5 l1, ⟨.blk, 45, 1, 2, .c [.wh 3, .s (.k .i64 r55.2.1)]⟩, nb 5 r55.1, ⟨.row, 89, 1, r60.2.1, .w r60.1⟩, nw 89 r65.1, ⟨.blk, 45, 1, 2, .c [.wh 7, .s (.k .i64 r115.2.1)]⟩, nb 5 r115.1]⟩ (aP g23 aN) ?_
         obtain ⟨r120, g24, h⟩ := bind_some' h
         refine Vgs hT (fT 1 (pReadBig_ok n r120) fN) [] [] [0, 1, 2, 3, 4, 5, 6, 7, 8] ⟨[(0, kH 0), (1, kH 1), (7, kB r32), (10, kP 2 0), (11, kE 31 r55.2.2), (12, kH 4), (13, kE 31 r60.2.2), (14, kH 5), (15, kE 31 r65.2), (17, kB ((((List.range l2.length).length : Nat) : Int) == ((l2.length : Nat) : Int))), (20, kP 6 0), (21, kE 31 r115.2.2), (22, kH 8), (23, kE 31 r120.2.2)], [], [ow 89 l0, ob 5 l1, ⟨.blk, 45, 1, 2, .c [.wh 3, .s (.k .i64 r55.2.1)]⟩, nb 5 r55.1, ⟨.row, 89, 1, r60.2.1, .w r60.1⟩, nw 89 r65.1, ⟨.blk, 45, 1, 2, .c [.wh 7, .s (.k .i64 r115.2.1)]⟩, nb 5 r115.1, ⟨.row, 89, 1, r120.2.1, .w r120.1⟩]⟩ (aP g24 aN) ?_
         obtain ⟨r125, g25, h⟩ := bind_some' h
         refine Vgs hT (fT 1 (pReadOid_ok n r125) fN) [] [] [0, 2, 3, 4, 5, 6, 7, 8, 9] ⟨[(0, kH 0), (7, kB r32), (10, kP 1 0), (11, kE 31 r55.2.2), (12, kH 3), (13, kE 31 r60.2.2), (14, kH 4), (15, kE 31 r65.2), (17, kB ((((List.range l2.length).length : Nat) : Int) == ((l2.length : Nat) : Int))), (20, kP 5 0), (21, kE 31 r115.2.2), (22, kH 7), (23, kE 31 r120.2.2), (24, kH 8), (25, kE 31 r125.2)], [], [ow 89 l0, ⟨.blk, 45, 1, 2, .c [.wh 2, .s (.k .i64 r55.2.1)]⟩, nb 5 r55.1, ⟨.row, 89, 1, r60.2.1, .w r60.1⟩, nw 89 r65.1, ⟨.blk, 45, 1, 2, .c [.wh 6, .s (.k .i64 r115.2.1)]⟩, nb 5 r115.1, ⟨.row, 89, 1, r120.2.1, .w r120.1⟩, nw 89 r125.1]⟩ (aP g25 aN) ?_
         obtain ⟨r130, g26, h⟩ := bind_some' h
         refine Vgs hT (fT 1 (pBig_ok n r130) fN) [] [] [0, 1, 2, 3, 4, 5, 6, 7, 8, 9] ⟨[(0, kH 0), (7, kB r32), (10, kP 1 0), (11, kE 31 r55.2.2), (12, kH 3), (13, kE 31 r60.2.2), (14, kH 4), (15, kE 31 r65.2), (17, kB ((((List.range l2.length).length : Nat) : Int) == ((l2.length : Nat) : Int))), (20, kP 5 0), (21, kE 31 r115.2.2), (22, kH 7), (23, kE 31 r120.2.2), (24, kH 8), (25, kE 31 r125.2), (26, kH 9), (27, kE 31 r130.2)], [], [ow 89 l0, ⟨.blk, 45, 1, 2, .c [.wh 2, .s (.k .i64 r55.2.1)]⟩, nb 5 r55.1, ⟨.row, 89, 1, r60.2.1, .w r60.1⟩, nw 89 r65.1, ⟨.blk, 45, 1, 2, .c [.wh 6, .s (.k .i64 r115.2.1)]⟩, nb 5 r115.1, ⟨.row, 89, 1, r120.2.1, .w r120.1⟩, nw 89 r125.1, nb 5 r130.1]⟩ (aP g26 aN) ?_
         refine Vrs hT [0, 1, 2, 3, 4, 5, 6, 7, 8, 9] ⟨[(0, kH 0), (7, kB r32), (10, kP 1 0), (11, kE 31 r55.2.2), (12, kH 3), (13, kE 31 r60.2.2), (14, kH 4), (15, kE 31 r65.2), (17, kB ((((List.range l2.length).length : Nat) : Int) == ((l2.length : Nat) : Int))), (20, kP 5 0), (21, kE 31 r115.2.2), (22, kH 7), (23, kE 31 r120.2.2), (24, kH 8), (25, kE 31 r125.2), (26, kH 9), (27, kE 31 r130.2), (28, kT r130.1)], [], [ow 89 l0, ⟨.blk, 45, 1, 2, .c [.wh 2, .s (.k .i64 r55.2.1)]⟩, nb 5 r55.1, ⟨.row, 89, 1, r60.2.1, .w r60.1⟩, nw 89 r65.1, ⟨.blk, 45, 1, 2, .c [.wh 6, .s (.k .i64 r115.2.1)]⟩, nb 5 r115.1, ⟨.row, 89, 1, r120.2.1, .w r120.1⟩, nw 89 r125.1, nb 5 r130.1]⟩ ?_
         refine W_seq ?_
         refine Vrs hT [0, 1, 2, 3, 4, 5, 6, 7, 8, 9] ⟨[(0, kH 0), (7, kB r32), (10, kP 1 0), (11, kE 31 r55.2.2), (12, kH 3), (13, kE 31 r60.2.2), (14, kH 4), (15, kE 31 r65.2), (17, kB ((((List.range l2.length).length : Nat) : Int) == ((l2.length : Nat) : Int))), (20, kP 5 0), (21, kE 31 r115.2.2), (22, kH 7), (23, kE 31 r120.2.2), (24, kH 8), (25, kE 31 r125.2), (26, kH 9), (27, kE 31 r130.2), (28, kT r130.1), (29, kI 0)], [], [ow 89 l0, ⟨.blk, 45, 1, 2, .c [.wh 2, .s (.k .i64 r55.2.1)]⟩, nb 5 r55.1, ⟨.row, 89, 1, r60.2.1, .w r60.1⟩, nw 89 r65.1, ⟨.blk, 45, 1, 2, .c [.wh 6, .s (.k .i64 r115.2.1)]⟩, nb 5 r115.1, ⟨.row, 89, 1, r120.2.1, .w r120.1⟩, nw 89 r125.1, nb 5 r130.1]⟩ ?_
         refine W_block ?_
         refine Vc [] [0, 1, 2, 3, 4, 5, 6, 7, 8, 9] (lPStays_l3_E l0 l2 r32 r55 r60 r65 r115 r120 r125 r130 r130.1 0) (W_lp ((lPStays_l3_P n l0 l2 r32 r55 r60 r65 r115 r120 r125 r130 r)) n ⟨_, _, rfl, h⟩ ?_)
         rintro fu_l3 _ ⟨l26_4, i29_4, rfl, h⟩
         cases fu_l3 with
         | zero => cases h
         | succ fu_l3 =>
          refine ⟨fu_l3, rfl, ?_⟩
          rw [lPStays_l3] at h
          refine W_seq ?_
          refine Vrs hT [0, 1, 2, 3, 4, 5, 6, 7, 8, 9] ⟨[(0, kH 0), (7, kB r32), (10, kP 1 0), (11, kE 31 r55.2.2), (12, kH 3), (13, kE 31 r60.2.2), (14, kH 4), (15, kE 31 r65.2), (17, kB ((((List.range l2.length).length : Nat) : Int) == ((l2.length : Nat) : Int))), (20, kP 5 0), (21, kE 31 r115.2.2), (22, kH 7), (23, kE 31 r120.2.2), (24, kH 8), (25, kE 31 r125.2), (26, kH 9), (27, kE 31 r130.2), (28, kT r130.1), (29, kI i29_4), (138, kB (decide (i29_4 < ((r130.1.length : Nat) : Int))))], [], [ow 89 l0, ⟨.blk, 45, 1, 2, .c [.wh 2, .s (.k .i64 r55.2.1)]⟩, nb 5 r55.1, ⟨.row, 89, 1, r60.2.1, .w r60.1⟩, nw 89 r65.1, ⟨.blk, 45, 1, 2, .c [.wh 6, .s (.k .i64 r115.2.1)]⟩, nb 5 r115.1, ⟨.row, 89, 1, r120.2.1, .w r120.1⟩, nw 89 r125.1, ⟨.row, 5, 1, r130.1.length, .b l26_4⟩]⟩ ?_
          refine Vi ((decide (i29_4 < ((r130.1.length : Nat) : Int)))) (fun g45 => ?_) (fun g45 => ?_)
          ·replace h := bif_t h g45
           refine W_skip ?_
           refine W_seq ?_
           refine W_block ?_
           obtain ⟨g27, g28, g29, g30, h⟩ := gd4 h
           refine Vg hT fN [] [] [0, 1, 2, 3, 4, 5, 6, 7, 8, 9] ⟨[(0, kH 0), (7, kB r32), (10, kP 1 0), (11, kE 31 r55.2.2), (12, kH 3), (13, kE 31 r60.2.2), (14, kH 4), (15, kE 31 r65.2), (17, kB ((((List.range l2.length).length : Nat) : Int) == ((l2.length : Nat) : Int))), (20, kP 5 0), (21, kE 31 r115.2.2), (22, kH 7), (23, kE 31 r120.2.2), (24, kH 8), (25, kE 31 r125.2), (26, kH 9), (27, kE 31 r130.2), (28, kT r130.1), (29, kI i29_4)], [], [ow 89 l0, ⟨.blk, 45, 1, 2, .c [.wh 2, .s (.k .i64 r55.2.1)]⟩, nb 5 r55.1, ⟨.row, 89, 1, r60.2.1, .w r60.1⟩, nw 89 r65.1, ⟨.blk, 45, 1, 2, .c [.wh 6, .s (.k .i64 r115.2.1)]⟩, nb 5 r115.1, ⟨.row, 89, 1, r120.2.1, .w r120.1⟩, nw 89 r125.1, ⟨.row, 5, 1, r130.1.length, .b (l26_4.set i29_4.toNat ((l26_4.getD i29_4.toNat 0) + (1 : UInt8)))⟩]⟩ (aP g27 (aP g28 (aP g29 (aP g30 aN)))) ?_
           obtain ⟨g31, h⟩ := gd_some h
           refine Vg hT fN [] [] [0, 1, 2, 3, 4, 5, 6, 7, 8, 9] (lPStays_l3_E l0 l2 r32 r55 r60 r65 r115 r120 r125 r130 (l26_4.set i29_4.toNat ((l26_4.getD i29_4.toNat 0) + (1 : UInt8))) (i29_4 + 1)) (aP g31 aN) ?_
           exact ⟨_, _, rfl, h⟩
          ·replace h := bif_f h g45
           refine Vc [] [0, 1, 2, 3, 4, 5, 6, 7, 8] ⟨[(0, kH 0), (7, kB r32), (10, kP 1 0), (11, kE 31 r55.2.2), (12, kH 3), (13, kE 31 r60.2.2), (14, kH 4), (15, kE 31 r65.2), (17, kB ((((List.range l2.length).length : Nat) : Int) == ((l2.length : Nat) : Int))), (20, kP 5 0), (21, kE 31 r115.2.2), (22, kH 7), (23, kE 31 r120.2.2), (24, kH 8), (25, kE 31 r125.2), (27, kE 31 r130.2), (28, kT r130.1)], [], [ow 89 l0, ⟨.blk, 45, 1, 2, .c [.wh 2, .s (.k .i64 r55.2.1)]⟩, nb 5 r55.1, ⟨.row, 89, 1, r60.2.1, .w r60.1⟩, nw 89 r65.1, ⟨.blk, 45, 1, 2, .c [.wh 6, .s (.k .i64 r115.2.1)]⟩, nb 5 r115.1, ⟨.row, 89, 1, r120.2.1, .w r120.1⟩, nw 89 r125.1]⟩ (W_exit ?_)
           obtain ⟨r151, g32, h⟩ := bind_some' h
           refine Vgs hT (fT 1 (pBig_ok n r151) fN) [] [] [1, 2, 3, 4, 5, 6, 7, 8, 9] ⟨[(7, kB r32), (10, kP 0 0), (11, kE 31 r55.2.2), (12, kH 2), (13, kE 31 r60.2.2), (14, kH 3), (15, kE 31 r65.2), (17, kB ((((List.range l2.length).length : Nat) : Int) == ((l2.length : Nat) : Int))), (20, kP 4 0), (21, kE 31 r115.2.2), (22, kH 6), (23, kE 31 r120.2.2), (24, kH 7), (25, kE 31 r125.2), (27, kE 31 r130.2), (28, kT r130.1), (30, kH 8), (31, kE 31 r151.2)], [], [⟨.blk, 45, 1, 2, .c [.wh 1, .s (.k .i64 r55.2.1)]⟩, nb 5 r55.1, ⟨.row, 89, 1, r60.2.1, .w r60.1⟩, nw 89 r65.1, ⟨.blk, 45, 1, 2, .c [.wh 5, .s (.k .i64 r115.2.1)]⟩, nb 5 r115.1, ⟨.row, 89, 1, r120.2.1, .w r120.1⟩, nw 89 r125.1, nb 5 r151.1]⟩ (aP g32 aN) ?_
           refine W_seq ?_
           rcases Bool.eq_false_or_eq_true r32 with g33 | g33
           ·replace h := bif_t h g33
            rcases Bool.eq_false_or_eq_true ((((List.range l2.length).length : Nat) : Int) == ((l2.length : Nat) : Int)) with g34 | g34
            ·replace h := bif_t h g34
             rcases Bool.eq_false_or_eq_true (((r55.2.2).isNone) == ((r115.2.2).isNone)) with g35 | g35
             ·replace h := bif_t h g35
              rcases Bool.eq_false_or_eq_true (r55.1 == r115.1) with g36 | g36
              ·replace h := bif_t h g36
               rcases Bool.eq_false_or_eq_true (((r60.2.2).isNone) == ((r120.2.2).isNone)) with g37 | g37
               ·replace h := bif_t h g37
                obtain ⟨r184, g38, h⟩ := bind_some' h
                obtain ⟨r185, g39, h⟩ := bind_some' h
                rcases Bool.eq_false_or_eq_true r185 with g40 | g40
                ·replace h := bif_t h g40
                 rcases Bool.eq_false_or_eq_true (((r65.2).isNone) == ((r125.2).isNone)) with g41 | g41
                 ·replace h := bif_t h g41
                  obtain ⟨r197, g42, h⟩ := bind_some' h
                  rcases Bool.eq_false_or_eq_true r197 with g43 | g43
                  ·replace h := bif_t h g43
                   rcases Bool.eq_false_or_eq_true (((r130.2).isNone) == ((r151.2).isNone)) with g44 | g44
                   ·replace h := bif_t h g44
                    refine Vd hT (fT 30 (rOf_ok n r184) (fT 31 (rSame_ok n r185) (fT 43 (lsame_ok n r197) fN))) 56 [(1, true), (4, true), (11, true), (20, true), (27, true), (33, true), (40, true), (45, true), (52, true)] [(206, false), (208, false), (209, false)] [] [] ⟨[(6, kB (r151.1 == r130.1))], [], []⟩ (aP g33 (aP g34 (aP g35 (aP g36 (aP g37 (aP g38 (aP g39 (aP g40 (aP g41 (aP g42 (aP g43 (aP g44 aN)))))))))))) ?_
                    refine Vc [] [] (lPStays_R (r151.1 == r130.1)) (W_ret ?_)
                    exact ⟨.inl rfl, by cases h; rfl⟩
                   ·replace h := bif_f h g44
                    refine Vd hT (fT 30 (rOf_ok n r184) (fT 31 (rSame_ok n r185) (fT 43 (lsame_ok n r197) fN))) 56 [(1, true), (4, true), (11, true), (20, true), (27, true), (33, true), (40, true), (45, true), (52, false)] [(206, false), (208, false), (209, false)] [] [] ⟨[(6, kB false)], [], []⟩ (aP g33 (aP g34 (aP g35 (aP g36 (aP g37 (aP g38 (aP g39 (aP g40 (aP g41 (aP g42 (aP g43 (aP g44 aN)))))))))))) ?_
                    refine Vc [] [] (lPStays_R false) (W_ret ?_)
                    exact ⟨.inl rfl, by cases h; rfl⟩
                  ·replace h := bif_f h g43
                   refine Vd hT (fT 30 (rOf_ok n r184) (fT 31 (rSame_ok n r185) (fT 43 (lsame_ok n r197) fN))) 56 [(1, true), (4, true), (11, true), (20, true), (27, true), (33, true), (40, true), (45, false)] [(206, false), (208, false), (209, false)] [] [] ⟨[(6, kB false)], [], []⟩ (aP g33 (aP g34 (aP g35 (aP g36 (aP g37 (aP g38 (aP g39 (aP g40 (aP g41 (aP g42 (aP g43 aN))))))))))) ?_
                   refine Vc [] [] (lPStays_R false) (W_ret ?_)
                   exact ⟨.inl rfl, by cases h; rfl⟩
                 ·replace h := bif_f h g41
                  refine Vd hT (fT 30 (rOf_ok n r184) (fT 31 (rSame_ok n r185) fN)) 56 [(1, true), (4, true), (11, true), (20, true), (27, true), (33, true), (40, false)] [(206, false), (208, false), (209, false)] [] [] ⟨[(6, kB false)], [], []⟩ (aP g33 (aP g34 (aP g35 (aP g36 (aP g37 (aP g38 (aP g39 (aP g40 (aP g41 aN))))))))) ?_
                  refine Vc [] [] (lPStays_R false) (W_ret ?_)
                  exact ⟨.inl rfl, by cases h; rfl⟩
                ·replace h := bif_f h g40
                 refine Vd hT (fT 30 (rOf_ok n r184) (fT 31 (rSame_ok n r185) fN)) 56 [(1, true), (4, true), (11, true), (20, true), (27, true), (33, false)] [(206, false), (208, false), (209, false)] [] [] ⟨[(6, kB false)], [], []⟩ (aP g33 (aP g34 (aP g35 (aP g36 (aP g37 (aP g38 (aP g39 (aP g40 aN)))))))) ?_
                 refine Vc [] [] (lPStays_R false) (W_ret ?_)
                 exact ⟨.inl rfl, by cases h; rfl⟩
               ·replace h := bif_f h g37
                refine Vd hT fN 56 [(1, true), (4, true), (11, true), (20, true), (27, false)] [(206, false), (208, false), (209, false)] [] [] ⟨[(6, kB false)], [], []⟩ (aP g33 (aP g34 (aP g35 (aP g36 (aP g37 aN))))) ?_
                refine Vc [] [] (lPStays_R false) (W_ret ?_)
                exact ⟨.inl rfl, by cases h; rfl⟩
              ·replace h := bif_f h g36
               refine Vd hT fN 56 [(1, true), (4, true), (11, true), (20, false)] [(206, false), (208, false), (209, false)] [] [] ⟨[(6, kB false)], [], []⟩ (aP g33 (aP g34 (aP g35 (aP g36 aN)))) ?_
               refine Vc [] [] (lPStays_R false) (W_ret ?_)
               exact ⟨.inl rfl, by cases h; rfl⟩
             ·replace h := bif_f h g35
              refine Vd hT fN 56 [(1, true), (4, true), (11, false)] [(206, false), (208, false), (209, false)] [] [] ⟨[(6, kB false)], [], []⟩ (aP g33 (aP g34 (aP g35 aN))) ?_
              refine Vc [] [] (lPStays_R false) (W_ret ?_)
              exact ⟨.inl rfl, by cases h; rfl⟩
            ·replace h := bif_f h g34
             refine Vd hT fN 56 [(1, true), (4, false)] [(206, false), (208, false), (209, false)] [] [] ⟨[(6, kB false)], [], []⟩ (aP g33 (aP g34 aN)) ?_
             refine Vc [] [] (lPStays_R false) (W_ret ?_)
             exact ⟨.inl rfl, by cases h; rfl⟩
           ·replace h := bif_f h g33
            refine Vd hT fN 56 [(1, false)] [(206, false), (208, false), (209, false)] [] [] ⟨[(6, kB false)], [], []⟩ (aP g33 aN) ?_
            refine Vc [] [] (lPStays_R false) (W_ret ?_)
            exact ⟨.inl rfl, by cases h; rfl⟩
    ·replace h := bif_f h g11
     refine Vg hT fN [(5, false)] [] [0, 1, 2, 3, 4, 5, 6, 7, 8] ⟨[(0, kH 0), (1, kH 1), (2, kH 2), (7, kB r32), (8, kH 3), (9, kH 4), (10, kP 5 0), (11, kE 31 r55.2.2), (12, kH 7), (13, kE 31 r60.2.2), (14, kH 8), (15, kE 31 r65.2), (17, kB false)], [], [ow 89 l0, ob 5 l1, ⟨(.dp false), 22, 1, l2.length, .d (.by 5) l2⟩, nb 5 ([] ++ l1), ⟨.row, 22, 1, (List.range l2.length).length, .p 2 (List.range l2.length)⟩, ⟨.blk, 45, 1, 2, .c [.wh 6, .s (.k .i64 r55.2.1)]⟩, nb 5 r55.1, ⟨.row, 89, 1, r60.2.1, .w r60.1⟩, nw 89 r65.1]⟩ (aP g11 aN) ?_
     refine W_seq ?_
     refine Vrs hT [0, 1, 2, 3, 4, 5, 6, 7, 8] ⟨[(0, kH 0), (1, kH 1), (2, kH 2), (7, kB r32), (8, kH 3), (9, kH 4), (10, kP 5 0), (11, kE 31 r55.2.2), (12, kH 7), (13, kE 31 r60.2.2), (14, kH 8), (15, kE 31 r65.2), (17, kB false), (18, kI 0)], [], [ow 89 l0, ob 5 l1, ⟨(.dp false), 22, 1, l2.length, .d (.by 5) l2⟩, nb 5 ([] ++ l1), ⟨.row, 22, 1, (List.range l2.length).length, .p 2 (List.range l2.length)⟩, ⟨.blk, 45, 1, 2, .c [.wh 6, .s (.k .i64 r55.2.1)]⟩, nb 5 r55.1, ⟨.row, 89, 1, r60.2.1, .w r60.1⟩, nw 89 r65.1]⟩ ?_
     refine W_block ?_
     refine Vc [] [0, 1, 2, 3, 4, 5, 6, 7, 8] (lPStays_l4_E l0 l1 l2 r32 r55 r60 r65 0) (W_lp ((lPStays_l4_P n l0 l1 l2 r32 r55 r60 r65 r)) n ⟨_, rfl, h⟩ ?_)
     rintro fu_l4 _ ⟨i18_5, rfl, h⟩
     cases fu_l4 with
     | zero => cases h
     | succ fu_l4 =>
      refine ⟨fu_l4, rfl, ?_⟩
      rw [lPStays_l4] at h
      refine W_seq ?_
      refine Vrs hT [0, 1, 2, 3, 4, 5, 6, 7, 8] ⟨[(0, kH 0), (1, kH 1), (2, kH 2), (7, kB r32), (8, kH 3), (9, kH 4), (10, kP 5 0), (11, kE 31 r55.2.2), (12, kH 7), (13, kE 31 r60.2.2), (14, kH 8), (15, kE 31 r65.2), (17, kB false), (18, kI i18_5), (85, kB (decide (i18_5 < ((l2.length : Nat) : Int))))], [], [ow 89 l0, ob 5 l1, ⟨(.dp false), 22, 1, l2.length, .d (.by 5) l2⟩, nb 5 ([] ++ l1), ⟨.row, 22, 1, (List.range l2.length).length, .p 2 (List.range l2.length)⟩, ⟨.blk, 45, 1, 2, .c [.wh 6, .s (.k .i64 r55.2.1)]⟩, nb 5 r55.1, ⟨.row, 89, 1, r60.2.1, .w r60.1⟩, nw 89 r65.1]⟩ ?_
      refine Vi ((decide (i18_5 < ((l2.length : Nat) : Int)))) (fun g72 => ?_) (fun g72 => ?_)
      ·replace h := bif_t h g72
       refine W_skip ?_
       refine W_seq ?_
       refine W_block ?_
       obtain ⟨g48, g49, g50, g51, h⟩ := gd4 h
       refine Vds hT fN 10 [] [(0, false), (1, false), (2, false), (7, false), (8, false), (9, false), (10, false), (11, false), (12, false), (13, false), (14, false), (15, false), (17, false), (18, false), (92, false), (97, false)] [] [0, 1, 2, 3, 4, 5, 6, 7, 8] ⟨[(0, kH 0), (1, kH 1), (2, kH 2), (7, kB r32), (8, kH 3), (9, kH 4), (10, kP 5 0), (11, kE 31 r55.2.2), (12, kH 7), (13, kE 31 r60.2.2), (14, kH 8), (15, kE 31 r65.2), (17, kB false), (18, kI i18_5), (98, kB ((l2.getD ((List.range l2.length).getD i18_5.toNat 0) []) != (l2.getD i18_5.toNat [])))], [], [ow 89 l0, ob 5 l1, ⟨(.dp false), 22, 1, l2.length, .d (.by 5) l2⟩, nb 5 ([] ++ l1), ⟨.row, 22, 1, (List.range l2.length).length, .p 2 (List.range l2.length)⟩, ⟨.blk, 45, 1, 2, .c [.wh 6, .s (.k .i64 r55.2.1)]⟩, nb 5 r55.1, ⟨.row, 89, 1, r60.2.1, .w r60.1⟩, nw 89 r65.1]⟩ (aP g48 (aP g49 (aP g50 (aP g51 aN)))) ?_
       refine Vi (((l2.getD ((List.range l2.length).getD i18_5.toNat 0) []) != (l2.getD i18_5.toNat []))) (fun g53 => ?_) (fun g53 => ?_)
       ·replace h := bif_t h g53
        refine Vrs hT [] ⟨[(6, kB false)], [], []⟩ ?_
        refine Vc [] [] (lPStays_R false) (W_ret ?_)
        exact ⟨.inl rfl, by cases h; rfl⟩
       ·replace h := bif_f h g53
        refine W_skip ?_
        obtain ⟨g52, h⟩ := gd_some h
        refine Vg hT fN [] [] [0, 1, 2, 3, 4, 5, 6, 7, 8] (lPStays_l4_E l0 l1 l2 r32 r55 r60 r65 (i18_5 + 1)) (aP g52 aN) ?_
        exact ⟨_, rfl, h⟩
      ·replace h := bif_f h g72
       refine Vc [] [0, 1, 3, 5, 6, 7, 8] ⟨[(0, kH 0), (1, kH 1), (7, kB r32), (8, kH 2), (10, kP 3 0), (11, kE 31 r55.2.2), (12, kH 5), (13, kE 31 r60.2.2), (14, kH 6), (15, kE 31 r65.2), (17, kB false)], [], [ow 89 l0, ob 5 l1, nb 5 ([] ++ l1), ⟨.blk, 45, 1, 2, .c [.wh 4, .s (.k .i64 r55.2.1)]⟩, nb 5 r55.1, ⟨.row, 89, 1, r60.2.1, .w r60.1⟩, nw 89 r65.1]⟩ (W_exit ?_)
       refine W_seq ?_
       refine Vrs hT [0, 1, 2, 3, 4, 5, 6] ⟨[(0, kH 0), (1, kH 1), (7, kB r32), (8, kH 2), (10, kP 3 0), (11, kE 31 r55.2.2), (12, kH 5), (13, kE 31 r60.2.2), (14, kH 6), (15, kE 31 r65.2), (17, kB false), (19, kI 0)], [], [ow 89 l0, ob 5 l1, nb 5 ([] ++ l1), ⟨.blk, 45, 1, 2, .c [.wh 4, .s (.k .i64 r55.2.1)]⟩, nb 5 r55.1, ⟨.row, 89, 1, r60.2.1, .w r60.1⟩, nw 89 r65.1]⟩ ?_
       refine W_block ?_
       refine Vc [] [0, 1, 2, 3, 4, 5, 6] (lPStays_l5_E l0 l1 r32 r55 r60 r65 ([] ++ l1) 0) (W_lp ((lPStays_l5_P n l0 l1 r32 r55 r60 r65 r)) n ⟨_, _, rfl, h⟩ ?_)
       rintro fu_l5 _ ⟨l8_5, i19_5, rfl, h⟩
       cases fu_l5 with
       | zero => cases h
       | succ fu_l5 =>
        refine ⟨fu_l5, rfl, ?_⟩
        rw [lPStays_l5] at h
        refine W_seq ?_
        refine Vrs hT [0, 1, 2, 3, 4, 5, 6] ⟨[(0, kH 0), (1, kH 1), (7, kB r32), (8, kH 2), (10, kP 3 0), (11, kE 31 r55.2.2), (12, kH 5), (13, kE 31 r60.2.2), (14, kH 6), (15, kE 31 r65.2), (17, kB false), (19, kI i19_5), (102, kB (decide (i19_5 < ((([] ++ l1).length : Nat) : Int))))], [], [ow 89 l0, ob 5 l1, ⟨.row, 5, 1, ([] ++ l1).length, .b l8_5⟩, ⟨.blk, 45, 1, 2, .c [.wh 4, .s (.k .i64 r55.2.1)]⟩, nb 5 r55.1, ⟨.row, 89, 1, r60.2.1, .w r60.1⟩, nw 89 r65.1]⟩ ?_
        refine Vi ((decide (i19_5 < ((([] ++ l1).length : Nat) : Int)))) (fun g71 => ?_) (fun g71 => ?_)
        ·replace h := bif_t h g71
         refine W_skip ?_
         refine W_seq ?_
         refine W_block ?_
         obtain ⟨g54, g55, g56, g57, h⟩ := gd4 h
         refine Vg hT fN [] [] [0, 1, 2, 3, 4, 5, 6] ⟨[(0, kH 0), (1, kH 1), (7, kB r32), (8, kH 2), (10, kP 3 0), (11, kE 31 r55.2.2), (12, kH 5), (13, kE 31 r60.2.2), (14, kH 6), (15, kE 31 r65.2), (17, kB false), (19, kI i19_5)], [], [ow 89 l0, ob 5 l1, ⟨.row, 5, 1, ([] ++ l1).length, .b (l8_5.set i19_5.toNat ((l8_5.getD i19_5.toNat 0) + (1 : UInt8)))⟩, ⟨.blk, 45, 1, 2, .c [.wh 4, .s (.k .i64 r55.2.1)]⟩, nb 5 r55.1, ⟨.row, 89, 1, r60.2.1, .w r60.1⟩, nw 89 r65.1]⟩ (aP g54 (aP g55 (aP g56 (aP g57 aN)))) ?_
         obtain ⟨g58, h⟩ := gd_some h
         refine Vg hT fN [] [] [0, 1, 2, 3, 4, 5, 6] (lPStays_l5_E l0 l1 r32 r55 r60 r65 (l8_5.set i19_5.toNat ((l8_5.getD i19_5.toNat 0) + (1 : UInt8))) (i19_5 + 1)) (aP g58 aN) ?_
         exact ⟨_, _, rfl, h⟩
        ·replace h := bif_f h g71
         refine Vc [] [0, 1, 3, 4, 5, 6] ⟨[(0, kH 0), (1, kH 1), (7, kB r32), (10, kP 2 0), (11, kE 31 r55.2.2), (12, kH 4), (13, kE 31 r60.2.2), (14, kH 5), (15, kE 31 r65.2), (17, kB false)], [], [ow 89 l0, ob 5 l1, ⟨.blk, 45, 1, 2, .c [.wh 3, .s (.k .i64 r55.2.1)]⟩, nb 5 r55.1, ⟨.row, 89, 1, r60.2.1, .w r60.1⟩, nw 89 r65.1]⟩ (W_exit ?_)
         obtain ⟨r115, g59, h⟩ := bind_some' h
         refine Vgs hT (fT 1 (pReadBits_ok n r115) fN) [] [] [0, 1, 2, 3, 4, 5, 7, 6] ⟨[(0, kH 0), (1, kH 1), (7, kB r32), (10, kP 2 0), (11, kE 31 r55.2.2), (12, kH 4), (13, kE 31 r60.2.2), (14, kH 5), (15, kE 31 r65.2), (17, kB false), (20, kP 6 0), (21, kE 31 r115.2.2)], [], [ow 89 l0, ob 5 l1, ⟨.blk, 45, 1, 2, .c [.wh 3, .s (.k .i64 r55.2.1)]⟩, nb 5 r55.1, ⟨.row, 89, 1, r60.2.1, .w r60.1⟩, nw 89 r65.1, ⟨.blk, 45, 1, 2, .c [.wh 7, .s (.k .i64 r115.2.1)]⟩, nb 5 r115.1]⟩ (aP g59 aN) ?_
         obtain ⟨r120, g60, h⟩ := bind_some' h
         refine Vgs hT (fT 1 (pReadBig_ok n r120) fN) [] [] [0, 1, 2, 3, 4, 5, 6, 7, 8] ⟨[(0, kH 0), (1, kH 1), (7, kB r32), (10, kP 2 0), (11, kE 31 r55.2.2), (12, kH 4), (13, kE 31 r60.2.2), (14, kH 5), (15, kE 31 r65.2), (17, kB false), (20, kP 6 0), (21, kE 31 r115.2.2), (22, kH 8), (23, kE 31 r120.2.2)], [], [ow 89 l0, ob 5 l1, ⟨.blk, 45, 1, 2, .c [.wh 3, .s (.k .i64 r55.2.1)]⟩, nb 5 r55.1, ⟨.row, 89, 1, r60.2.1, .w r60.1⟩, nw 89 r65.1, ⟨.blk, 45, 1, 2, .c [.wh 7, .s (.k .i64 r115.2.1)]⟩, nb 5 r115.1, ⟨.row, 89, 1, r120.2.1, .w r120.1⟩]⟩ (aP g60 aN) ?_
         obtain ⟨r125, g61, h⟩ := bind_some' h
         refine Vgs hT (fT 1 (pReadOid_ok n r125) fN) [] [] [0, 2, 3, 4, 5, 6, 7, 8, 9] ⟨[(0, kH 0), (7, kB r32), (10, kP 1 0), (11, kE 31 r55.2.2), (12, kH 3), (13, kE 31 r60.2.2), (14, kH 4), (15, kE 31 r65.2), (17, kB false), (20, kP 5 0), (21, kE 31 r115.2.2), (22, kH 7), (23, kE 31 r120.2.2), (24, kH 8), (25, kE 31 r125.2)], [], [ow 89 l0, ⟨.blk, 45, 1, 2, .c [.wh 2, .s (.k .i64 r55.2.1)]⟩, nb 5 r55.1, ⟨.row, 89, 1, r60.2.1, .w r60.1⟩, nw 89 r65.1, ⟨.blk, 45, 1, 2, .c [.wh 6, .s (.k .i64 r115.2.1)]⟩, nb 5 r115.1, ⟨.row, 89, 1, r120.2.1, .w r120.1⟩, nw 89 r125.1]⟩ (aP g61 aN) ?_
         obtain ⟨r130, g62, h⟩ := bind_some' h
         refine Vgs hT (fT 1 (pBig_ok n r130) fN) [] [] [0, 1, 2, 3, 4, 5, 6, 7, 8, 9] ⟨[(0, kH 0), (7, kB r32), (10, kP 1 0), (11, kE 31 r55.2.2), (12, kH 3), (13, kE 31 r60.2.2), (14, kH 4), (15, kE 31 r65.2), (17, kB false), (20, kP 5 0), (21, kE 31 r115.2.2), (22, kH 7), (23, kE 31 r120.2.2), (24, kH 8), (25, kE 31 r125.2), (26, kH 9), (27, kE 31 r130.2)], [], [ow 89 l0, ⟨.blk, 45, 1, 2, .c [.wh 2, .s (.k .i64 r55.2.1)]⟩, nb 5 r55.1, ⟨.row, 89, 1, r60.2.1, .w r60.1⟩, nw 89 r65.1, ⟨.blk, 45, 1, 2, .c [.wh 6, .s (.k .i64 r115.2.1)]⟩, nb 5 r115.1, ⟨.row, 89, 1, r120.2.1, .w r120.1⟩, nw 89 r125.1, nb 5 r130.1]⟩ (aP g62 aN) ?_
         refine Vrs hT [0, 1, 2, 3, 4, 5, 6, 7, 8, 9] ⟨[(0, kH 0), (7, kB r32), (10, kP 1 0), (11, kE 31 r55.2.2), (12, kH 3), (13, kE 31 r60.2.2), (14, kH 4), (15, kE 31 r65.2), (17, kB false), (20, kP 5 0), (21, kE 31 r115.2.2), (22, kH 7), (23, kE 31 r120.2.2), (24, kH 8), (25, kE 31 r125.2), (26, kH 9), (27, kE 31 r130.2), (28, kT r130.1)], [], [ow 89 l0, ⟨.blk, 45, 1, 2, .c [.wh 2, .s (.k .i64 r55.2.1)]⟩, nb 5 r55.1, ⟨.row, 89, 1, r60.2.1, .w r60.1⟩, nw 89 r65.1, ⟨.blk, 45, 1, 2, .c [.wh 6, .s (.k .i64 r115.2.1)]⟩, nb 5 r115.1, ⟨.row, 89, 1, r120.2.1, .w r120.1⟩, nw 89 r125.1, nb 5 r130.1]⟩ ?_
         refine W_seq ?_
         refine Vrs hT [0, 1, 2, 3, 4, 5, 6, 7, 8, 9] ⟨[(0, kH 0), (7, kB r32), (10, kP 1 0), (11, kE 31 r55.2.2), (12, kH 3), (13, kE 31 r60.2.2), (14, kH 4), (15, kE 31 r65.2), (17, kB false), (20, kP 5 0), (21, kE 31 r115.2.2), (22, kH 7), (23, kE 31 r120.2.2), (24, kH 8), (25, kE 31 r125.2), (26, kH 9), (27, kE 31 r130.2), (28, kT r130.1), (29, kI 0)], [], [ow 89 l0, ⟨.blk, 45, 1, 2, .c [.wh 2, .s (.k .i64 r55.2.1)]⟩, nb 5 r55.1, ⟨.row, 89, 1, r60.2.1, .w r60.1⟩, nw 89 r65.1, ⟨.blk, 45, 1, 2, .c [.wh 6, .s (.k .i64 r115.2.1)]⟩, nb 5 r115.1, ⟨.row, 89, 1, r120.2.1, .w r120.1⟩, nw 89 r125.1, nb 5 r130.1]⟩ ?_
         refine W_block ?_
         refine Vc [] [0, 1, 2, 3, 4, 5, 6, 7, 8, 9] (lPStays_l6_E l0 r32 r55 r60 r65 r115 r120 r125 r130 r130.1 0) (W_lp ((lPStays_l6_P n l0 r32 r55 r60 r65 r115 r120 r125 r130 r)) n ⟨_, _, rfl, h⟩ ?_)
         rintro fu_l6 _ ⟨l26_5, i29_5, rfl, h⟩
         cases fu_l6 with
         | zero => cases h
         | succ fu_l6 =>
          refine ⟨fu_l6, rfl, ?_⟩
          rw [lPStays_l6] at h
          refine W_seq ?_
          refine Vrs hT [0, 1, 2, 3, 4, 5, 6, 7, 8, 9] ⟨[(0, kH 0), (7, kB r32), (10, kP 1 0), (11, kE 31 r55.2.2), (12, kH 3), (13, kE 31 r60.2.2), (14, kH 4), (15, kE 31 r65.2), (17, kB false), (20, kP 5 0), (21, kE 31 r115.2.2), (22, kH 7), (23, kE 31 r120.2.2), (24, kH 8), (25, kE 31 r125.2), (26, kH 9), (27, kE 31 r130.2), (28, kT r130.1), (29, kI i29_5), (138, kB (decide (i29_5 < ((r130.1.length : Nat) : Int))))], [], [ow 89 l0, ⟨.blk, 45, 1, 2, .c [.wh 2, .s (.k .i64 r55.2.1)]⟩, nb 5 r55.1, ⟨.row, 89, 1, r60.2.1, .w r60.1⟩, nw 89 r65.1, ⟨.blk, 45, 1, 2, .c [.wh 6, .s (.k .i64 r115.2.1)]⟩, nb 5 r115.1, ⟨.row, 89, 1, r120.2.1, .w r120.1⟩, nw 89 r125.1, ⟨.row, 5, 1, r130.1.length, .b l26_5⟩]⟩ ?_
          refine Vi ((decide (i29_5 < ((r130.1.length : Nat) : Int)))) (fun g70 => ?_) (fun g70 => ?_)
          ·replace h := bif_t h g70
           refine W_skip ?_
           refine W_seq ?_
           refine W_block ?_
           obtain ⟨g63, g64, g65, g66, h⟩ := gd4 h
           refine Vg hT fN [] [] [0, 1, 2, 3, 4, 5, 6, 7, 8, 9] ⟨[(0, kH 0), (7, kB r32), (10, kP 1 0), (11, kE 31 r55.2.2), (12, kH 3), (13, kE 31 r60.2.2), (14, kH 4), (15, kE 31 r65.2), (17, kB false), (20, kP 5 0), (21, kE 31 r115.2.2), (22, kH 7), (23, kE 31 r120.2.2), (24, kH 8), (25, kE 31 r125.2), (26, kH 9), (27, kE 31 r130.2), (28, kT r130.1), (29, kI i29_5)], [], [ow 89 l0, ⟨.blk, 45, 1, 2, .c [.wh 2, .s (.k .i64 r55.2.1)]⟩, nb 5 r55.1, ⟨.row, 89, 1, r60.2.1, .w r60.1⟩, nw 89 r65.1, ⟨.blk, 45, 1, 2, .c [.wh 6, .s (.k .i64 r115.2.1)]⟩, nb 5 r115.1, ⟨.row, 89, 1, r120.2.1, .w r120.1⟩, nw 89 r125.1, ⟨.row, 5, 1, r130.1.length, .b (l26_5.set i29_5.toNat ((l26_5.getD i29_5.toNat 0) + (1 : UInt8)))⟩]⟩ (aP g63 (aP g64 (aP g65 (aP g66 aN)))) ?_
           obtain ⟨g67, h⟩ := gd_some h
           refine Vg hT fN [] [] [0, 1, 2, 3, 4, 5, 6, 7, 8, 9] (lPStays_l6_E l0 r32 r55 r60 r65 r115 r120 r125 r130 (l26_5.set i29_5.toNat ((l26_5.getD i29_5.toNat 0) + (1 : UInt8))) (i29_5 + 1)) (aP g67 aN) ?_
           exact ⟨_, _, rfl, h⟩
          ·replace h := bif_f h g70
           refine Vc [] [0, 1, 2, 3, 4, 5, 6, 7, 8] ⟨[(0, kH 0), (7, kB r32), (10, kP 1 0), (11, kE 31 r55.2.2), (12, kH 3), (13, kE 31 r60.2.2), (14, kH 4), (15, kE 31 r65.2), (17, kB false), (20, kP 5 0), (21, kE 31 r115.2.2), (22, kH 7), (23, kE 31 r120.2.2), (24, kH 8), (25, kE 31 r125.2), (27, kE 31 r130.2), (28, kT r130.1)], [], [ow 89 l0, ⟨.blk, 45, 1, 2, .c [.wh 2, .s (.k .i64 r55.2.1)]⟩, nb 5 r55.1, ⟨.row, 89, 1, r60.2.1, .w r60.1⟩, nw 89 r65.1, ⟨.blk, 45, 1, 2, .c [.wh 6, .s (.k .i64 r115.2.1)]⟩, nb 5 r115.1, ⟨.row, 89, 1, r120.2.1, .w r120.1⟩, nw 89 r125.1]⟩ (W_exit ?_)
           obtain ⟨r151, g68, h⟩ := bind_some' h
           refine Vgs hT (fT 1 (pBig_ok n r151) fN) [] [] [1, 2, 3, 4, 5, 6, 7, 8, 9] ⟨[(7, kB r32), (10, kP 0 0), (11, kE 31 r55.2.2), (12, kH 2), (13, kE 31 r60.2.2), (14, kH 3), (15, kE 31 r65.2), (17, kB false), (20, kP 4 0), (21, kE 31 r115.2.2), (22, kH 6), (23, kE 31 r120.2.2), (24, kH 7), (25, kE 31 r125.2), (27, kE 31 r130.2), (28, kT r130.1), (30, kH 8), (31, kE 31 r151.2)], [], [⟨.blk, 45, 1, 2, .c [.wh 1, .s (.k .i64 r55.2.1)]⟩, nb 5 r55.1, ⟨.row, 89, 1, r60.2.1, .w r60.1⟩, nw 89 r65.1, ⟨.blk, 45, 1, 2, .c [.wh 5, .s (.k .i64 r115.2.1)]⟩, nb 5 r115.1, ⟨.row, 89, 1, r120.2.1, .w r120.1⟩, nw 89 r125.1, nb 5 r151.1]⟩ (aP g68 aN) ?_
           refine W_seq ?_
           rcases Bool.eq_false_or_eq_true r32 with g69 | g69
           ·replace h := bif_t h g69
            refine Vd hT fN 56 [(1, true)] [(206, false), (208, false), (209, false)] [] [] ⟨[(6, kB false)], [], []⟩ (aP g69 aN) ?_
            refine Vc [] [] (lPStays_R false) (W_ret ?_)
            exact ⟨.inl rfl, by cases h; rfl⟩
           ·replace h := bif_f h g69
            refine Vd hT fN 56 [(1, false)] [(206, false), (208, false), (209, false)] [] [] ⟨[(6, kB false)], [], []⟩ (aP g69 aN) ?_
            refine Vc [] [] (lPStays_R false) (W_ret ?_)
            exact ⟨.inl rfl, by cases h; rfl⟩
end Go.Proofs.Ytliilihbnhdemaa
end
section
namespace Go.Sx
section
variable {α : Type} (b : Nat) (f : α → Nat) (g : Nat → α)
def vl (l : List α) : Nat := l.foldr (fun x r => f x + b * r) 0
theorem vl_nil : vl b f [] = 0 := rfl
theorem vl_cons (x : α) (l : List α) : vl b f (x :: l) = f x + b * vl b f l := rfl
theorem vl_app (l m : List α) : vl b f (l ++ m) = vl b f l + b ^ l.length * vl b f m := by
 induction l with
 | nil => simp [vl_nil]
 | cons x l ih => simp only [List.cons_append, vl_cons, ih, List.length_cons, Nat.pow_succ]; grind
theorem vl_split (l : List α) (i : Nat) : vl b f l = vl b f (l.take i) + b ^ i * vl b f (l.drop i) := by
 induction i generalizing l with
 | zero => simp [vl_nil]
 | succ i ih =>
  cases l with
  | nil => simp [vl_nil]
  | cons x l => simp only [List.take_succ_cons, List.drop_succ_cons, vl_cons, Nat.pow_succ]; have := ih l; grind
theorem vl_take {z : α} (l : List α) (i : Nat) (h : i < l.length) : vl b f (l.take (i + 1)) = vl b f (l.take i) + b ^ i * f (l.getD i z) := by
 rw [List.take_succ_eq_append_getElem h, vl_app, List.getD_eq_getElem?_getD, List.getElem?_eq_getElem h]
 simp [vl_cons, vl_nil, Nat.min_eq_left (Nat.le_of_lt h)]
theorem vl_drop {z : α} (l : List α) (i : Nat) (h : i < l.length) : vl b f (l.drop i) = f (l.getD i z) + b * vl b f (l.drop (i + 1)) := by
 rw [List.drop_eq_getElem_cons h, vl_cons, List.getD_eq_getElem?_getD, List.getElem?_eq_getElem h]; rfl
theorem vl_set {z : α} (l : List α) (i : Nat) (x : α) (h : i < l.length) : vl b f (l.set i x) + b ^ i * f (l.getD i z) = vl b f l + b ^ i * f x := by
 induction l generalizing i with
 | nil => simp at h
 | cons y l ih =>
  cases i with
  | zero => simp [vl_cons]; omega
  | succ i =>
   have := ih i (by simpa using h)
   simp only [List.set_cons_succ, vl_cons, Nat.pow_succ, List.getD_cons_succ]; grind
theorem vl_lt (l : List α) (h : ∀ x ∈ l, f x < b) : vl b f l < b ^ l.length := by
 induction l with
 | nil => simp [vl_nil]
 | cons x l ih =>
  have h1 := ih (fun y hy => h y (.tail _ hy))
  have h2 := h x (.head _)
  rw [vl_cons, List.length_cons, Nat.pow_succ]
  have : b * (vl b f l + 1) ≤ b * b ^ l.length := Nat.mul_le_mul_left b h1
  grind
theorem vl_rep {z : α} (hz : f z = 0) (n : Nat) : vl b f (List.replicate n z) = 0 := by
 induction n with
 | zero => rfl
 | succ n ih => rw [List.replicate_succ, vl_cons, ih, hz]; rfl
def dg (v : Nat) : List α := if h : 1 < b ∧ v ≠ 0 then g (v % b) :: dg (v / b) else []
termination_by v
decreasing_by exact Nat.div_lt_self (by omega) h.1
theorem dg_zero : dg b g 0 = [] := by rw [dg]; simp
theorem dg_pos (hb : 1 < b) {v : Nat} (h : v ≠ 0) : dg b g v = g (v % b) :: dg b g (v / b) := by rw [dg, dif_pos ⟨hb, h⟩]
theorem vl_dg (hb : 1 < b) (hfg : ∀ x < b, f (g x) = x) (v : Nat) : vl b f (dg b g v) = v := by
 induction v using Nat.strongRecOn with
 | _ v ih =>
  by_cases h : v = 0
  ·subst h; rw [dg_zero]; rfl
  ·rw [dg_pos b g hb h, vl_cons, ih _ (Nat.div_lt_self (by omega) hb), hfg _ (Nat.mod_lt _ (by omega)), Nat.mod_add_div]
theorem dg_len (hb : 1 < b) (v k : Nat) : (dg b g v).length ≤ k ↔ v < b ^ k := by
 induction k generalizing v with
 | zero =>
  by_cases h : v = 0
  ·subst h; simp [dg_zero]
  ·rw [dg_pos b g hb h]; simp; omega
 | succ k ih =>
  by_cases h : v = 0
  ·subst h; simp [dg_zero]; exact Nat.pow_pos (by omega)
  ·rw [dg_pos b g hb h, List.length_cons, Nat.add_le_add_iff_right, ih, Nat.pow_succ, Nat.div_lt_iff_lt_mul (by omega)]
theorem dg_mem (hb : 1 < b) {P : α → Prop} (hP : ∀ x < b, P (g x)) (v : Nat) : ∀ x ∈ dg b g v, P x := by
 induction v using Nat.strongRecOn with
 | _ v ih =>
  by_cases h : v = 0
  ·subst h; rw [dg_zero]; intro x hx; cases hx
  ·rw [dg_pos b g hb h]
   intro x hx
   cases hx with
   | head => exact hP _ (Nat.mod_lt _ (by omega))
   | tail _ hx => exact ih _ (Nat.div_lt_self (by omega) hb) x hx
theorem dg_vl (hb : 1 < b) (l : List α) (hl : ∀ x ∈ l, f x < b ∧ g (f x) = x) (h : ∀ h : l ≠ [], f (l.getLast h) ≠ 0) : dg b g (vl b f l) = l := by
 induction l with
 | nil => rw [vl_nil, dg_zero]
 | cons x l ih =>
  obtain ⟨h1, h2⟩ := hl x (.head _)
  have ih := ih (fun y hy => hl y (.tail _ hy)) (fun hn => by have := h (by simp); rwa [List.getLast_cons hn] at this)
  have hne : vl b f (x :: l) ≠ 0 := by
   rw [vl_cons]
   cases l with
   | nil => have := h (by simp); simp at this; omega
   | cons y l =>
    intro h0
    have : vl b f (y :: l) = 0 := by
     cases Nat.eq_zero_of_add_eq_zero_left h0 |> Nat.mul_eq_zero.1 with
     | inl h => omega
     | inr h => exact h
    rw [this, dg_zero] at ih
    cases ih
  rw [dg_pos b g hb hne, vl_cons, Nat.add_mul_mod_self_left, Nat.mod_eq_of_lt h1, h2, Nat.add_mul_div_left _ _ (by omega), Nat.div_eq_of_lt h1, Nat.zero_add, ih]
theorem dg_get (hb : 1 < b) {z : α} (hfg : ∀ x < b, f (g x) = x) (hz : f z = 0) (v i : Nat) : f ((dg b g v).getD i z) = v / b ^ i % b := by
 induction i generalizing v with
 | zero =>
  by_cases h : v = 0
  ·subst h; simp [dg_zero, hz]
  ·rw [dg_pos b g hb h]; simp; exact hfg _ (Nat.mod_lt _ (by omega))
 | succ i ih =>
  by_cases h : v = 0
  ·subst h; simp [dg_zero, hz]
  ·rw [dg_pos b g hb h, List.getD_cons_succ, ih, Nat.pow_succ, Nat.div_div_eq_div_mul, Nat.mul_comm]
end
abbrev B2 : Nat := 4294967296
def nV (l : List UInt32) : Nat := vl 4294967296 UInt32.toNat l
def nD (v : Nat) : List UInt32 := dg 4294967296 UInt32.ofNat v
def nZ (l : List Int) : Nat := vl 65536 Int.toNat l
def nE (v : Nat) : List Int := dg 65536 Int.ofNat v
theorem u32_lt (x : UInt32) : x.toNat < 4294967296 := x.toNat_lt
theorem u32_of (x : Nat) (h : x < 4294967296) : (UInt32.ofNat x).toNat = x := by simp; omega
theorem V_D (v : Nat) : nV (nD v) = v := vl_dg _ _ _ (by decide) u32_of v
theorem Z_E (v : Nat) : nZ (nE v) = v := vl_dg _ _ _ (by decide) (fun _ _ => rfl) v
theorem D_len (v k : Nat) : (nD v).length ≤ k ↔ v < 4294967296 ^ k := dg_len _ _ (by decide) v k
theorem E_len (v k : Nat) : (nE v).length ≤ k ↔ v < 65536 ^ k := dg_len _ _ (by decide) v k
theorem D_zero : nD 0 = [] := dg_zero _ _
theorem E_zero : nE 0 = [] := dg_zero _ _
theorem V_lt (l : List UInt32) : nV l < 4294967296 ^ l.length := vl_lt _ _ _ fun x _ => u32_lt x
def Dz (l : List Int) : Prop := ∀ x ∈ l, 0 ≤ x ∧ x < 65536
theorem E_dz (v : Nat) : Dz (nE v) := dg_mem _ _ (by decide) (fun x _ => ⟨Int.natCast_nonneg x, by show (x : Int) < 65536; omega⟩) v
theorem Z_lt {l : List Int} (h : Dz l) : nZ l < 65536 ^ l.length := vl_lt _ _ _ fun x hx => by have := h x hx; omega
theorem D_V {l : List UInt32} (h : ∀ h : l ≠ [], l.getLast h ≠ 0) : nD (nV l) = l :=
 dg_vl _ _ _ (by decide) l (fun x _ => ⟨u32_lt x, by simp⟩) fun hn h0 => h hn (UInt32.toNat_inj.1 h0)
theorem E_Z {l : List Int} (hl : Dz l) (h : ∀ h : l ≠ [], l.getLast h ≠ 0) : nE (nZ l) = l :=
 dg_vl _ _ _ (by decide) l (fun x hx => by have := hl x hx; exact ⟨by omega, by show ((x.toNat : Nat) : Int) = x; omega⟩) fun hn h0 => h hn (by have := hl _ (List.getLast_mem hn); omega)
theorem D_get (v i : Nat) : ((nD v).getD i 0).toNat = v / 4294967296 ^ i % 4294967296 := dg_get _ _ _ (by decide) u32_of rfl v i
theorem V_nil : nV [] = 0 := rfl
theorem V_cons (x : UInt32) (l : List UInt32) : nV (x :: l) = x.toNat + 4294967296 * nV l := rfl
theorem V_app (l m : List UInt32) : nV (l ++ m) = nV l + 4294967296 ^ l.length * nV m := vl_app _ _ l m
theorem V_split (l : List UInt32) (i : Nat) : nV l = nV (l.take i) + 4294967296 ^ i * nV (l.drop i) := vl_split _ _ l i
theorem V_take (l : List UInt32) (i : Nat) (h : i < l.length) : nV (l.take (i + 1)) = nV (l.take i) + 4294967296 ^ i * (l.getD i 0).toNat := vl_take _ _ l i h
theorem V_drop (l : List UInt32) (i : Nat) (h : i < l.length) : nV (l.drop i) = (l.getD i 0).toNat + 4294967296 * nV (l.drop (i + 1)) := vl_drop _ _ l i h
theorem V_set (l : List UInt32) (i : Nat) (x : UInt32) (h : i < l.length) : nV (l.set i x) + 4294967296 ^ i * (l.getD i 0).toNat = nV l + 4294967296 ^ i * x.toNat := vl_set _ _ l i x h
theorem V_rep (n : Nat) : nV (List.replicate n 0) = 0 := vl_rep (z := (0 : UInt32)) _ _ rfl n
theorem Z_nil : nZ [] = 0 := rfl
theorem Z_cons (x : Int) (l : List Int) : nZ (x :: l) = x.toNat + 65536 * nZ l := rfl
theorem Z_app (l m : List Int) : nZ (l ++ m) = nZ l + 65536 ^ l.length * nZ m := vl_app _ _ l m
theorem Z_take (l : List Int) (i : Nat) (h : i < l.length) : nZ (l.take (i + 1)) = nZ (l.take i) + 65536 ^ i * (l.getD i 0).toNat := vl_take _ _ l i h
end Go.Sx
end
