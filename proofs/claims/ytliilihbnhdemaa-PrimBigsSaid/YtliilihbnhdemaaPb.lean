import Derived.Test.YtliilihbnhdemaaSxX
import Derived.Test.YtliilihbnhdemaaProg
import Derived.Test.YtliilihbnhdemaaPr
set_option linter.unusedVariables false
set_option linter.unusedSimpArgs false
namespace Go.Proofs.Ytliilihbnhdemaa
open Go.RowKit Go.Ch Go.Sx

def tabL_pb : List (TypeId × Ti) := [(3, ⟨.int .i64, 1, 8, true, some [.int .i64]⟩),
  (5, ⟨.int .u8, 1, 1, true, some [.int .u8]⟩),
  (9, ⟨.str, 1, 16, true, some [.str]⟩),
  (22, ⟨.sl 5, 1, 24, false, some [.nils]⟩),
  (28, ⟨.ifc, 1, 16, true, some [.ifc]⟩),
  (31, ⟨.int .i64, 1, 8, true, some [.int .i64]⟩),
  (70, ⟨.sl 89, 1, 24, false, some [.nils]⟩),
  (77, ⟨.sl 3, 1, 24, false, some [.nils]⟩),
  (89, ⟨.int .u32, 1, 4, true, some [.int .u32]⟩)]
def tab_pb : Tab := fun t => (tabL_pb).lookup t
theorem tabE_pb : (tabL_pb.map fun p => tiOf Try.prog p.1) = tabL_pb.map fun p => some p.2 := by kernel_rfl
theorem tabO_pb : TabOk Try.prog tab_pb := tab_of tabE_pb

def ptrim_l1 (n : Nat) : Nat → List UInt32 → Nat → Option (List UInt32 × Nat)
  | 0, _, _ => none
  | fu_l1 + 1, w0_2, m0_2 =>
    bif (decide ((0 : Int) < ((m0_2 : Nat) : Int))) then
      gd (okI .i64 (((m0_2 : Nat) : Int) - 1)) <|
      gd (0 ≤ (((m0_2 : Nat) : Int) - 1)) <|
      gd ((((m0_2 : Nat) : Int) - 1) < ((m0_2 : Nat) : Int)) <|
      bif ((w0_2.getD ((((m0_2 : Nat) : Int) - 1).toNat) 0) == 0) then
        gd (okI .i64 (((m0_2 : Nat) : Int) - 1)) <|
        gd (0 ≤ (((m0_2 : Nat) : Int) - 1)) <|
        gd ((((m0_2 : Nat) : Int) - 1) ≤ ((m0_2 : Nat) : Int)) <|
        (ptrim_l1 n fu_l1) ((w0_2.drop 0).take ((((m0_2 : Nat) : Int) - 1).toNat)) ((((m0_2 : Nat) : Int) - 1).toNat)
      else
        some (w0_2, m0_2)
    else
      some (w0_2, m0_2)
def ptrim (n : Nat) (a0 : List UInt32) : Option (List UInt32 × Nat) :=
  ptrim_l1 n n a0 a0.length
def pWrite_j1 (n : Nat) (a1 : Int) (r10 : List UInt32 × Nat) (i27_1 : Int) (k_l1 : (List UInt8) → Int → Option (List UInt8 × Nat × Option Int)) (l6_7 : List UInt8) : Option (List UInt8 × Nat × Option Int) :=
  gd (okI .i64 (i27_1 + 1)) <|
  k_l1 l6_7 (i27_1 + 1)
def pWrite_l1 (n : Nat) (a1 : Int) (r10 : List UInt32 × Nat) : Nat → List UInt8 → Int → Option (List UInt8 × Nat × Option Int)
  | 0, _, _ => none
  | fu_l1 + 1, l6_5, i27_1 =>
    bif (decide (i27_1 < (4 * ((r10.2 : Nat) : Int)))) then
      gd ((4 : Int) ≠ 0) <|
      gd (okI .i64 (Int.tdiv i27_1 4)) <|
      gd (0 ≤ (Int.tdiv i27_1 4)) <|
      gd ((Int.tdiv i27_1 4) < ((r10.2 : Nat) : Int)) <|
      gd ((4 : Int) ≠ 0) <|
      gd (okI .i64 (8 * (Int.tmod i27_1 4))) <|
      gd (0 ≤ (8 * (Int.tmod i27_1 4))) <|
      bif (decide (i27_1 < a1)) then
        gd (okI .i64 (a1 - 1)) <|
        gd (okI .i64 ((a1 - 1) - i27_1)) <|
        gd (0 ≤ ((a1 - 1) - i27_1)) <|
        gd (((a1 - 1) - i27_1) < ((a1.toNat : Nat) : Int)) <|
        pWrite_j1 n a1 r10 i27_1 (pWrite_l1 n a1 r10 fu_l1) (l6_5.set (((a1 - 1) - i27_1).toNat) ((shr32 (r10.1.getD ((Int.tdiv i27_1 4).toNat) 0) (8 * (Int.tmod i27_1 4))).toUInt8))
      else
        bif (((shr32 (r10.1.getD ((Int.tdiv i27_1 4).toNat) 0) (8 * (Int.tmod i27_1 4))).toUInt8) != 0) then
          some ([], 0, (some 1))
        else
          pWrite_j1 n a1 r10 i27_1 (pWrite_l1 n a1 r10 fu_l1) l6_5
    else
      some (l6_5, a1.toNat, none)
def pWrite (n : Nat) (a0 : List UInt32) (a1 : Int) : Option (List UInt8 × Nat × Option Int) :=
  (ptrim n a0).bind fun r10 =>
  bif (decide ((64 : Int) < ((r10.2 : Nat) : Int))) then
    some ([], 0, (some 4))
  else
    bif (decide (a1 < (0 : Int))) then
      some ([], 0, (some 1))
    else
      bif (decide ((256 : Int) < a1)) then
        some ([], 0, (some 1))
      else
        gd (0 ≤ a1) <|
        gd (a1 = a1) <|
        gd (rmB a1.toNat 1) <|
        gd (okI .i64 (4 * ((r10.2 : Nat) : Int))) <|
        pWrite_l1 n a1 r10 n (List.replicate a1.toNat 0) 0
def pBig_j1 (n : Nat) (l4_4 : List UInt8) (m4_4 : Nat) : Option (List UInt8 × Option Int) :=
  gd ((l4_4).length ≤ 1000000000000) <|
  some (l4_4, none)
def pBig_l1 (n : Nat) : Nat → List UInt8 → Nat → Option (List UInt8 × Option Int)
  | 0, _, _ => none
  | fu_l1 + 1, l4_5, m4_5 =>
    bif (decide ((1 : Int) < ((m4_5 : Nat) : Int))) then
      (pspare n l4_5).bind fun r22_4 =>
      bif r22_4 then
        gd (0 ≤ (1 : Int)) <|
        gd ((1 : Int) ≤ ((m4_5 : Nat) : Int)) <|
        (pBig_l1 n fu_l1) ((l4_5.drop 1).take (m4_5 - 1)) (m4_5 - 1)
      else
        pBig_j1 n l4_5 m4_5
    else
      pBig_j1 n l4_5 m4_5
def pBig (n : Nat) (a0 : List UInt32) : Option (List UInt8 × Option Int) :=
  (pWrite n a0 256).bind fun r8 =>
  bif (!((r8.2.2).isNone)) then
    some ([], (some 4))
  else
    gd (rmB (1 + r8.2.1) 1) <|
    pBig_l1 n n ([0] ++ r8.1) (([0] ++ r8.1).length)
def rtrim_l1 (n : Nat) (a0 : List Int) : Nat → Int → Option (List Int × Nat)
  | 0, _ => none
  | fu_l1 + 1, i3_2 =>
    bif (decide ((0 : Int) < i3_2)) then
      gd (okI .i64 (i3_2 - 1)) <|
      gd (0 ≤ (i3_2 - 1)) <|
      gd ((i3_2 - 1) < ((a0.length : Nat) : Int)) <|
      bif ((a0.getD ((i3_2 - 1).toNat) 0) == 0) then
        gd (okI .i64 (i3_2 - 1)) <|
        (rtrim_l1 n a0 fu_l1) (i3_2 - 1)
      else
        gd (0 ≤ i3_2) <|
        gd (i3_2 ≤ ((a0.length : Nat) : Int)) <|
        some (a0, i3_2.toNat)
    else
      gd (0 ≤ i3_2) <|
      gd (i3_2 ≤ ((a0.length : Nat) : Int)) <|
      some (a0, i3_2.toNat)
def rtrim (n : Nat) (a0 : List Int) : Option (List Int × Nat) :=
  rtrim_l1 n a0 n ((a0.length : Nat) : Int)
def rOf_l1 (n : Nat) (a0 : List UInt32) : Nat → List Int → Int → Option (List Int × Nat)
  | 0, _, _ => none
  | fu_l1 + 1, z3_2, i4_2 =>
    bif (decide (i4_2 < ((a0.length : Nat) : Int))) then
      gd (0 ≤ i4_2) <|
      gd (i4_2 < ((a0.length : Nat) : Int)) <|
      gd ((65536 : UInt32) ≠ 0) <|
      gd (0 ≤ i4_2) <|
      gd (i4_2 < ((a0.length : Nat) : Int)) <|
      gd ((65536 : UInt32) ≠ 0) <|
      gd (rmB (z3_2.length + 2) 8) <|
      gd (okI .i64 (i4_2 + 1)) <|
      (rOf_l1 n a0 fu_l1) (z3_2 ++ [((((a0.getD i4_2.toNat 0) % (65536 : UInt32)).toNat : Nat) : Int), ((((a0.getD i4_2.toNat 0) / (65536 : UInt32)).toNat : Nat) : Int)]) (i4_2 + 1)
    else
      (rtrim n z3_2).bind fun r27_2 =>
      some (((z3_2.drop 0).take r27_2.2), r27_2.2)
def rOf (n : Nat) (a0 : List UInt32) : Option (List Int × Nat) :=
  rOf_l1 n a0 n [] 0
def rMay (n : Nat) (a0 : List UInt32) : Option (Bool) :=
  (rOf n a0).bind fun r4 =>
  some (decide (((r4.2 : Nat) : Int) ≤ (128 : Int)))
def rSize_j1 (n : Nat) (i3_2 : Int) : Option (Int) :=
  some i3_2
def rSize (n : Nat) (a0 : List Int) : Option (Int) :=
  gd (okI .i64 (2 * ((a0.length : Nat) : Int))) <|
  bif (decide ((0 : Int) < (2 * ((a0.length : Nat) : Int)))) then
    gd (okI .i64 (((a0.length : Nat) : Int) - 1)) <|
    gd (0 ≤ (((a0.length : Nat) : Int) - 1)) <|
    gd ((((a0.length : Nat) : Int) - 1) < ((a0.length : Nat) : Int)) <|
    bif (decide ((a0.getD ((((a0.length : Nat) : Int) - 1).toNat) 0) < (256 : Int))) then
      gd (okI .i64 ((2 * ((a0.length : Nat) : Int)) - 1)) <|
      rSize_j1 n ((2 * ((a0.length : Nat) : Int)) - 1)
    else
      rSize_j1 n (2 * ((a0.length : Nat) : Int))
  else
    rSize_j1 n (2 * ((a0.length : Nat) : Int))
def rWrite_j1 (n : Nat) (a0 : List Int) (a1 : Int) (l6_1 : List UInt8) (i7_1 : Int) (k_l1 : (List UInt8) → Int → Option (List UInt8 × Nat × Bool)) (i8_5 : Int) : Option (List UInt8 × Nat × Bool) :=
  gd (okI .i64 (a1 - 1)) <|
  gd (okI .i64 ((a1 - 1) - i7_1)) <|
  gd ((256 : Int) ≠ 0) <|
  gd (0 ≤ ((a1 - 1) - i7_1)) <|
  gd (((a1 - 1) - i7_1) < ((a1.toNat : Nat) : Int)) <|
  gd (okI .i64 (i7_1 + 1)) <|
  k_l1 (l6_1.set (((a1 - 1) - i7_1).toNat) (UInt8.ofInt (Int.tmod i8_5 256))) (i7_1 + 1)
def rWrite_l1 (n : Nat) (a0 : List Int) (a1 : Int) : Nat → List UInt8 → Int → Option (List UInt8 × Nat × Bool)
  | 0, _, _ => none
  | fu_l1 + 1, l6_1, i7_1 =>
    bif (decide (i7_1 < a1)) then
      gd ((2 : Int) ≠ 0) <|
      gd (okI .i64 (Int.tdiv i7_1 2)) <|
      bif (decide ((Int.tdiv i7_1 2) < ((a0.length : Nat) : Int))) then
        gd ((2 : Int) ≠ 0) <|
        gd (okI .i64 (Int.tdiv i7_1 2)) <|
        gd (0 ≤ (Int.tdiv i7_1 2)) <|
        gd ((Int.tdiv i7_1 2) < ((a0.length : Nat) : Int)) <|
        gd ((2 : Int) ≠ 0) <|
        bif ((Int.tmod i7_1 2) == 1) then
          gd ((256 : Int) ≠ 0) <|
          gd (okI .i64 (Int.tdiv (a0.getD ((Int.tdiv i7_1 2).toNat) 0) 256)) <|
          rWrite_j1 n a0 a1 l6_1 i7_1 (rWrite_l1 n a0 a1 fu_l1) (Int.tdiv (a0.getD ((Int.tdiv i7_1 2).toNat) 0) 256)
        else
          rWrite_j1 n a0 a1 l6_1 i7_1 (rWrite_l1 n a0 a1 fu_l1) (a0.getD ((Int.tdiv i7_1 2).toNat) 0)
      else
        some (l6_1, a1.toNat, true)
    else
      some (l6_1, a1.toNat, true)
def rWrite (n : Nat) (a0 : List Int) (a1 : Int) : Option (List UInt8 × Nat × Bool) :=
  bif (decide (a1 < (0 : Int))) then
    some ([], 0, false)
  else
    (rSize n a0).bind fun r13 =>
    bif (decide (a1 < r13)) then
      some ([], 0, false)
    else
      gd (0 ≤ a1) <|
      gd (a1 = a1) <|
      gd (rmB a1.toNat 1) <|
      rWrite_l1 n a0 a1 n (List.replicate a1.toNat 0) 0
def rBig (n : Nat) (a0 : List UInt32) : Option (List UInt8 × Nat) :=
  (rOf n a0).bind fun r7 =>
  (rSize n r7.1).bind fun r11 =>
  (rWrite n r7.1 r11).bind fun r12 =>
  bif (((r12.2.1 : Nat) : Int) == 0) then
    gd (rmB (1 + r12.2.1) 1) <|
    some (([0] ++ r12.1), ([0] ++ r12.1).length)
  else
    gd (0 ≤ (0 : Int)) <|
    gd ((0 : Int) < ((r12.2.1 : Nat) : Int)) <|
    bif (decide ((128 : UInt8) ≤ (r12.1.getD 0 0))) then
      gd (rmB (1 + r12.2.1) 1) <|
      some (([0] ++ r12.1), ([0] ++ r12.1).length)
    else
      some (r12.1, r12.2.1)
def pRead_l1 (n : Nat) (l0_4 : List UInt8) (m0_4 : Nat) : Nat → List UInt32 → Int → Option (List UInt32 × Nat × Option Int)
  | 0, _, _ => none
  | fu_l1 + 1, w4_1, i30_1 =>
    bif (decide (i30_1 < ((m0_4 : Nat) : Int))) then
      gd (0 ≤ i30_1) <|
      gd (i30_1 < ((m0_4 : Nat) : Int)) <|
      gd (okI .i64 (((m0_4 : Nat) : Int) - 1)) <|
      gd (okI .i64 ((((m0_4 : Nat) : Int) - 1) - i30_1)) <|
      gd ((4 : Int) ≠ 0) <|
      gd (okI .i64 (Int.tdiv ((((m0_4 : Nat) : Int) - 1) - i30_1) 4)) <|
      gd (0 ≤ (Int.tdiv ((((m0_4 : Nat) : Int) - 1) - i30_1) 4)) <|
      gd ((Int.tdiv ((((m0_4 : Nat) : Int) - 1) - i30_1) 4) < (((Int.tdiv (((m0_4 : Nat) : Int) + 3) 4).toNat : Nat) : Int)) <|
      gd ((4 : Int) ≠ 0) <|
      gd (okI .i64 (8 * (Int.tmod ((((m0_4 : Nat) : Int) - 1) - i30_1) 4))) <|
      gd (0 ≤ (8 * (Int.tmod ((((m0_4 : Nat) : Int) - 1) - i30_1) 4))) <|
      gd (0 ≤ (Int.tdiv ((((m0_4 : Nat) : Int) - 1) - i30_1) 4)) <|
      gd ((Int.tdiv ((((m0_4 : Nat) : Int) - 1) - i30_1) 4) < (((Int.tdiv (((m0_4 : Nat) : Int) + 3) 4).toNat : Nat) : Int)) <|
      gd (okI .i64 (i30_1 + 1)) <|
      (pRead_l1 n l0_4 m0_4 fu_l1) (w4_1.set ((Int.tdiv ((((m0_4 : Nat) : Int) - 1) - i30_1) 4).toNat) ((w4_1.getD ((Int.tdiv ((((m0_4 : Nat) : Int) - 1) - i30_1) 4).toNat) 0) ||| (shl32 ((l0_4.getD i30_1.toNat 0).toUInt32) (8 * (Int.tmod ((((m0_4 : Nat) : Int) - 1) - i30_1) 4))))) (i30_1 + 1)
    else
      some (w4_1, (Int.tdiv (((m0_4 : Nat) : Int) + 3) 4).toNat, none)
def pRead_j1 (n : Nat) (l0_4 : List UInt8) (m0_4 : Nat) : Option (List UInt32 × Nat × Option Int) :=
  bif (decide ((256 : Int) < ((m0_4 : Nat) : Int))) then
    some ([], 0, (some 4))
  else
    gd (okI .i64 (((m0_4 : Nat) : Int) + 3)) <|
    gd ((4 : Int) ≠ 0) <|
    gd (okI .i64 (Int.tdiv (((m0_4 : Nat) : Int) + 3) 4)) <|
    gd (0 ≤ (Int.tdiv (((m0_4 : Nat) : Int) + 3) 4)) <|
    gd ((Int.tdiv (((m0_4 : Nat) : Int) + 3) 4) = (Int.tdiv (((m0_4 : Nat) : Int) + 3) 4)) <|
    gd (rmB ((Int.tdiv (((m0_4 : Nat) : Int) + 3) 4).toNat) 4) <|
    pRead_l1 n l0_4 m0_4 n (List.replicate ((Int.tdiv (((m0_4 : Nat) : Int) + 3) 4).toNat) 0) 0
def pRead_l2 (n : Nat) : Nat → List UInt8 → Nat → Option (List UInt32 × Nat × Option Int)
  | 0, _, _ => none
  | fu_l2 + 1, l0_5, m0_5 =>
    bif (decide ((0 : Int) < ((m0_5 : Nat) : Int))) then
      gd (0 ≤ (0 : Int)) <|
      gd ((0 : Int) < ((m0_5 : Nat) : Int)) <|
      bif ((l0_5.getD 0 0) == 0) then
        gd (0 ≤ (1 : Int)) <|
        gd ((1 : Int) ≤ ((m0_5 : Nat) : Int)) <|
        (pRead_l2 n fu_l2) ((l0_5.drop 1).take (m0_5 - 1)) (m0_5 - 1)
      else
        pRead_j1 n l0_5 m0_5
    else
      pRead_j1 n l0_5 m0_5
def pRead (n : Nat) (a0 : List UInt8) : Option (List UInt32 × Nat × Option Int) :=
  pRead_l2 n n a0 a0.length
def pReadBig (n : Nat) (a0 : List UInt8) : Option (List UInt32 × Nat × Option Int) :=
  bif (((a0.length : Nat) : Int) == 0) then
    some ([], 0, (some 2))
  else
    gd (0 ≤ (0 : Int)) <|
    gd ((0 : Int) < ((a0.length : Nat) : Int)) <|
    bif (decide ((128 : UInt8) ≤ (a0.getD 0 0))) then
      some ([], 0, (some 2))
    else
      bif (decide ((1 : Int) < ((a0.length : Nat) : Int))) then
        (pspare n a0).bind fun r19 =>
        bif r19 then
          some ([], 0, (some 2))
        else
          (pRead n a0).bind fun r24 =>
          some (r24.1, r24.2.1, r24.2.2)
      else
        (pRead n a0).bind fun r24 =>
        some (r24.1, r24.2.1, r24.2.2)
def rBytes_j1 (n : Nat) (a0 : List UInt8) (z3_2 : List Int) (i4_2 : Int) (k_l1 : (List Int) → Int → Option (List Int × Nat)) (i5_8 : Int) : Option (List Int × Nat) :=
  gd (rmB (z3_2.length + 1) 8) <|
  gd (okI .i64 (i4_2 - 2)) <|
  k_l1 (z3_2 ++ [i5_8]) (i4_2 - 2)
def rBytes_l1 (n : Nat) (a0 : List UInt8) : Nat → List Int → Int → Option (List Int × Nat)
  | 0, _, _ => none
  | fu_l1 + 1, z3_2, i4_2 =>
    bif (decide ((0 : Int) ≤ i4_2)) then
      gd (0 ≤ i4_2) <|
      gd (i4_2 < ((a0.length : Nat) : Int)) <|
      bif (decide ((0 : Int) < i4_2)) then
        gd (okI .i64 (i4_2 - 1)) <|
        gd (0 ≤ (i4_2 - 1)) <|
        gd ((i4_2 - 1) < ((a0.length : Nat) : Int)) <|
        gd (okI .i64 ((((a0.getD ((i4_2 - 1).toNat) 0).toNat : Nat) : Int) * 256)) <|
        gd (okI .i64 ((((a0.getD i4_2.toNat 0).toNat : Nat) : Int) + ((((a0.getD ((i4_2 - 1).toNat) 0).toNat : Nat) : Int) * 256))) <|
        rBytes_j1 n a0 z3_2 i4_2 (rBytes_l1 n a0 fu_l1) ((((a0.getD i4_2.toNat 0).toNat : Nat) : Int) + ((((a0.getD ((i4_2 - 1).toNat) 0).toNat : Nat) : Int) * 256))
      else
        rBytes_j1 n a0 z3_2 i4_2 (rBytes_l1 n a0 fu_l1) (((a0.getD i4_2.toNat 0).toNat : Nat) : Int)
    else
      (rtrim n z3_2).bind fun r34_2 =>
      some (((z3_2.drop 0).take r34_2.2), r34_2.2)
def rBytes (n : Nat) (a0 : List UInt8) : Option (List Int × Nat) :=
  gd (okI .i64 (((a0.length : Nat) : Int) - 1)) <|
  rBytes_l1 n a0 n [] (((a0.length : Nat) : Int) - 1)
def rTo_j1 (n : Nat) (a0 : List Int) (w3_2 : List UInt32) (i4_2 : Int) (k_l1 : (List UInt32) → Int → Option (List UInt32)) (x5_8 : UInt32) : Option (List UInt32) :=
  gd (rmB (w3_2.length + 1) 4) <|
  gd (okI .i64 (i4_2 + 2)) <|
  k_l1 (w3_2 ++ [x5_8]) (i4_2 + 2)
def rTo_l1 (n : Nat) (a0 : List Int) : Nat → List UInt32 → Int → Option (List UInt32)
  | 0, _, _ => none
  | fu_l1 + 1, w3_2, i4_2 =>
    bif (decide (i4_2 < ((a0.length : Nat) : Int))) then
      gd (0 ≤ i4_2) <|
      gd (i4_2 < ((a0.length : Nat) : Int)) <|
      gd (okI .i64 (i4_2 + 1)) <|
      bif (decide ((i4_2 + 1) < ((a0.length : Nat) : Int))) then
        gd (okI .i64 (i4_2 + 1)) <|
        gd (0 ≤ (i4_2 + 1)) <|
        gd ((i4_2 + 1) < ((a0.length : Nat) : Int)) <|
        rTo_j1 n a0 w3_2 i4_2 (rTo_l1 n a0 fu_l1) ((UInt32.ofInt (a0.getD i4_2.toNat 0)) + ((UInt32.ofInt (a0.getD ((i4_2 + 1).toNat) 0)) * (65536 : UInt32)))
      else
        rTo_j1 n a0 w3_2 i4_2 (rTo_l1 n a0 fu_l1) (UInt32.ofInt (a0.getD i4_2.toNat 0))
    else
      some w3_2
def rTo (n : Nat) (a0 : List Int) : Option (List UInt32) :=
  rTo_l1 n a0 n [] 0
def rSame_l1 (n : Nat) (a0 : List UInt32) (r8 : List UInt32) : Nat → Int → Option (Bool)
  | 0, _ => none
  | fu_l1 + 1, i6_2 =>
    bif (decide (i6_2 < ((a0.length : Nat) : Int))) then
      gd (0 ≤ i6_2) <|
      gd (i6_2 < ((a0.length : Nat) : Int)) <|
      gd (0 ≤ i6_2) <|
      gd (i6_2 < ((r8.length : Nat) : Int)) <|
      bif ((a0.getD i6_2.toNat 0) != (r8.getD i6_2.toNat 0)) then
        some false
      else
        gd (okI .i64 (i6_2 + 1)) <|
        (rSame_l1 n a0 r8 fu_l1) (i6_2 + 1)
    else
      some true
def rSame (n : Nat) (a0 : List UInt32) (a1 : List Int) : Option (Bool) :=
  (rTo n a1).bind fun r8 =>
  bif (((a0.length : Nat) : Int) != ((r8.length : Nat) : Int)) then
    some false
  else
    rSame_l1 n a0 r8 n 0
def rNumber (n : Nat) (a0 : List UInt8) : Option (Bool) :=
  bif (((a0.length : Nat) : Int) == 0) then
    some false
  else
    bif (((a0.length : Nat) : Int) == 1) then
      some true
    else
      gd (0 ≤ (0 : Int)) <|
      gd ((0 : Int) < ((a0.length : Nat) : Int)) <|
      bif ((a0.getD 0 0) == 0) then
        gd (0 ≤ (1 : Int)) <|
        gd ((1 : Int) < ((a0.length : Nat) : Int)) <|
        bif (!(decide ((a0.getD 1 0) < (128 : UInt8)))) then
          gd (0 ≤ (0 : Int)) <|
          gd ((0 : Int) < ((a0.length : Nat) : Int)) <|
          bif ((a0.getD 0 0) == 255) then
            gd (0 ≤ (1 : Int)) <|
            gd ((1 : Int) < ((a0.length : Nat) : Int)) <|
            some (!(decide ((128 : UInt8) ≤ (a0.getD 1 0))))
          else
            some true
        else
          some false
      else
        gd (0 ≤ (0 : Int)) <|
        gd ((0 : Int) < ((a0.length : Nat) : Int)) <|
        bif ((a0.getD 0 0) == 255) then
          gd (0 ≤ (1 : Int)) <|
          gd ((1 : Int) < ((a0.length : Nat) : Int)) <|
          some (!(decide ((128 : UInt8) ≤ (a0.getD 1 0))))
        else
          some true
def lBigs (n : Nat) (a0 : List UInt32) (a1 : List UInt8) : Option (Bool) :=
  (pup n).bind fun r13 =>
  bif (decide ((100 : Int) < ((a0.length : Nat) : Int))) then
    some r13
  else
    bif (decide ((600 : Int) < ((a1.length : Nat) : Int))) then
      some r13
    else
      (pBig n a0).bind fun r25 =>
      (rMay n a0).bind fun r29 =>
      bif (!r29) then
        gd (¬((r25.2 : Option Int) = none ∧ ((some 4) : Option Int) = none)) <|
        bif (!(r25.2 == (some 4))) then
          some false
        else
          bif (((r25.1.length : Nat) : Int) != 0) then
            some false
          else
            bif r29 then
              bif (!((r25.2).isNone)) then
                some false
              else
                (rBig n a0).bind fun r51 =>
                bif (r25.1 != r51.1) then
                  some false
                else
                  (pReadBig n a1).bind fun r59 =>
                  (rNumber n a1).bind fun r63 =>
                  bif (!r63) then
                    bif r13 then
                      gd (¬((r59.2.2 : Option Int) = none ∧ ((some 2) : Option Int) = none)) <|
                      bif (r59.2.2 == (some 2)) then
                        some (((r59.2.1 : Nat) : Int) == 0)
                      else
                        some false
                    else
                      some false
                  else
                    gd (0 ≤ (0 : Int)) <|
                    gd ((0 : Int) < ((a1.length : Nat) : Int)) <|
                    bif (decide ((128 : UInt8) ≤ (a1.getD 0 0))) then
                      bif r13 then
                        gd (¬((r59.2.2 : Option Int) = none ∧ ((some 2) : Option Int) = none)) <|
                        bif (r59.2.2 == (some 2)) then
                          some (((r59.2.1 : Nat) : Int) == 0)
                        else
                          some false
                      else
                        some false
                    else
                      (rBytes n a1).bind fun r84 =>
                      (rSize n r84.1).bind fun r86 =>
                      bif (decide ((256 : Int) < r86)) then
                        bif r13 then
                          gd (¬((r59.2.2 : Option Int) = none ∧ ((some 4) : Option Int) = none)) <|
                          bif (r59.2.2 == (some 4)) then
                            some (((r59.2.1 : Nat) : Int) == 0)
                          else
                            some false
                        else
                          some false
                      else
                        bif r13 then
                          bif ((r59.2.2).isNone) then
                            (rSame n r59.1 r84.1).bind fun r107 =>
                            some r107
                          else
                            some false
                        else
                          some false
            else
              (pReadBig n a1).bind fun r59 =>
              (rNumber n a1).bind fun r63 =>
              bif (!r63) then
                bif r13 then
                  gd (¬((r59.2.2 : Option Int) = none ∧ ((some 2) : Option Int) = none)) <|
                  bif (r59.2.2 == (some 2)) then
                    some (((r59.2.1 : Nat) : Int) == 0)
                  else
                    some false
                else
                  some false
              else
                gd (0 ≤ (0 : Int)) <|
                gd ((0 : Int) < ((a1.length : Nat) : Int)) <|
                bif (decide ((128 : UInt8) ≤ (a1.getD 0 0))) then
                  bif r13 then
                    gd (¬((r59.2.2 : Option Int) = none ∧ ((some 2) : Option Int) = none)) <|
                    bif (r59.2.2 == (some 2)) then
                      some (((r59.2.1 : Nat) : Int) == 0)
                    else
                      some false
                  else
                    some false
                else
                  (rBytes n a1).bind fun r84 =>
                  (rSize n r84.1).bind fun r86 =>
                  bif (decide ((256 : Int) < r86)) then
                    bif r13 then
                      gd (¬((r59.2.2 : Option Int) = none ∧ ((some 4) : Option Int) = none)) <|
                      bif (r59.2.2 == (some 4)) then
                        some (((r59.2.1 : Nat) : Int) == 0)
                      else
                        some false
                    else
                      some false
                  else
                    bif r13 then
                      bif ((r59.2.2).isNone) then
                        (rSame n r59.1 r84.1).bind fun r107 =>
                        some r107
                      else
                        some false
                    else
                      some false
      else
        bif r29 then
          bif (!((r25.2).isNone)) then
            some false
          else
            (rBig n a0).bind fun r51 =>
            bif (r25.1 != r51.1) then
              some false
            else
              (pReadBig n a1).bind fun r59 =>
              (rNumber n a1).bind fun r63 =>
              bif (!r63) then
                bif r13 then
                  gd (¬((r59.2.2 : Option Int) = none ∧ ((some 2) : Option Int) = none)) <|
                  bif (r59.2.2 == (some 2)) then
                    some (((r59.2.1 : Nat) : Int) == 0)
                  else
                    some false
                else
                  some false
              else
                gd (0 ≤ (0 : Int)) <|
                gd ((0 : Int) < ((a1.length : Nat) : Int)) <|
                bif (decide ((128 : UInt8) ≤ (a1.getD 0 0))) then
                  bif r13 then
                    gd (¬((r59.2.2 : Option Int) = none ∧ ((some 2) : Option Int) = none)) <|
                    bif (r59.2.2 == (some 2)) then
                      some (((r59.2.1 : Nat) : Int) == 0)
                    else
                      some false
                  else
                    some false
                else
                  (rBytes n a1).bind fun r84 =>
                  (rSize n r84.1).bind fun r86 =>
                  bif (decide ((256 : Int) < r86)) then
                    bif r13 then
                      gd (¬((r59.2.2 : Option Int) = none ∧ ((some 4) : Option Int) = none)) <|
                      bif (r59.2.2 == (some 4)) then
                        some (((r59.2.1 : Nat) : Int) == 0)
                      else
                        some false
                    else
                      some false
                  else
                    bif r13 then
                      bif ((r59.2.2).isNone) then
                        (rSame n r59.1 r84.1).bind fun r107 =>
                        some r107
                      else
                        some false
                    else
                      some false
        else
          (pReadBig n a1).bind fun r59 =>
          (rNumber n a1).bind fun r63 =>
          bif (!r63) then
            bif r13 then
              gd (¬((r59.2.2 : Option Int) = none ∧ ((some 2) : Option Int) = none)) <|
              bif (r59.2.2 == (some 2)) then
                some (((r59.2.1 : Nat) : Int) == 0)
              else
                some false
            else
              some false
          else
            gd (0 ≤ (0 : Int)) <|
            gd ((0 : Int) < ((a1.length : Nat) : Int)) <|
            bif (decide ((128 : UInt8) ≤ (a1.getD 0 0))) then
              bif r13 then
                gd (¬((r59.2.2 : Option Int) = none ∧ ((some 2) : Option Int) = none)) <|
                bif (r59.2.2 == (some 2)) then
                  some (((r59.2.1 : Nat) : Int) == 0)
                else
                  some false
              else
                some false
            else
              (rBytes n a1).bind fun r84 =>
              (rSize n r84.1).bind fun r86 =>
              bif (decide ((256 : Int) < r86)) then
                bif r13 then
                  gd (¬((r59.2.2 : Option Int) = none ∧ ((some 4) : Option Int) = none)) <|
                  bif (r59.2.2 == (some 4)) then
                    some (((r59.2.1 : Nat) : Int) == 0)
                  else
                    some false
                else
                  some false
              else
                bif r13 then
                  bif ((r59.2.2).isNone) then
                    (rSame n r59.1 r84.1).bind fun r107 =>
                    some r107
                  else
                    some false
                else
                  some false

def ptrim_l1_E (w0_2 : List UInt32) (m0_2 : Nat) : S := ⟨[(0, .c (.wh 0))], [], [⟨(.ro false), 89, 1, m0_2, .w w0_2⟩]⟩
def ptrim_l1_P (n : Nat) (r : List UInt32 × Nat) (fu : Nat) : S → Prop := fun s => ∃ (w0_2 : List UInt32), ∃ (m0_2 : Nat), s = ptrim_l1_E w0_2 m0_2 ∧ ptrim_l1 n fu w0_2 m0_2 = some r
theorem ptrim_l1_M {n : Nat} {w0_2 : List UInt32} {m0_2 : Nat} {r : List UInt32 × Nat} {fu : Nat} (h : ptrim_l1 n fu w0_2 m0_2 = some r) : ptrim_l1_P n r fu (ptrim_l1_E w0_2 m0_2) := ⟨w0_2, m0_2, rfl, h⟩
def ptrim_R (r : List UInt32 × Nat) : S := ⟨[(2, .c (.wh 0))], [], [⟨(.ro false), 89, 1, r.2, .w r.1⟩]⟩
def ptrim_ct (n : Nat) (r : List UInt32 × Nat) : Ct := fun args H => match args with
  | [x0] => (match aW H x0 with | some l0 => some ([ptrim n l0 = some r], shA H.length (.c (.wh 0)), shH H.length [⟨(.ro false), 89, 1, r.2, .w r.1⟩]) | none => none)
  | _ => none
theorem ptrim_ok (n : Nat) (r : List UInt32 × Nat) : FnOk Try.prog Tr 83 (ptrim_ct n r) := by
  refine ⟨fun args H g av objs hF hg ρ w vals hG hp ha => ?_, _, Try.func83, by kernel_rfl, by kernel_rfl⟩
  obtain ⟨x0, rfl⟩ : ∃ x0, args = [x0] := by
    unfold ptrim_ct at hF; split at hF
    · exact ⟨_, rfl⟩
    · cases hF
  cases e0 : aW H x0 with
  | none => simp only [ptrim_ct, e0, reduceCtorEq] at hF
  | some l0 =>
  simp only [ptrim_ct, e0, Option.some.injEq, Prod.mk.injEq] at hF
  obtain ⟨rfl, rfl, rfl⟩ := hF
  obtain ⟨v0, vals, rfl, k0, ha⟩ := F2.inv ha
  obtain rfl := F2.inv0 ha
  have hI : ∀ w', Kp (noB (fun _ => undef)) w w' → Tr w' := fun _ hk => Tr.keep hk.below hG
  have h : ptrim n l0 = some r := hg
  obtain ⟨p0, s0, o0⟩ := aW_ok hp e0 (k0) 89
  have hR0 := rel0 (gv := (fun _ => undef)) (n := 21) (w := w) (args := [.c (.wh 0)]) (H := [⟨.ro false, 89, 1, l0.length, .w l0⟩]) (gl := []) (hpL (ps := [p0]) (F2.cons o0 F2.nil)) (allRo_ok rfl) (F2.cons s0 F2.nil) GlR.nil (by simp)
  clear ha hp hg k0 e0
  refine calls_W Try.func83 rfl rfl hR0 (Q := fun e s => (e = .ret ∨ e = .normal) ∧ s = ptrim_R r) ?_ ?_
  · clear hR0
    unfold ptrim at h
    have hT := tabO_pb
    refine W_seq ?_
    refine W_reg hT ftL_nil [] [] [0] [0] (s' := ⟨[(0, .c (.wh 0))], [], [⟨(.ro false), 89, 1, l0.length, .w l0⟩]⟩) (by kernel_rfl) allP_nil ?_
    refine W_seq ?_
    refine W_block ?_
    refine W_co [] [0] [0] (s' := (ptrim_l1_E l0 l0.length)) (by kernel_rfl) (W_lp ((ptrim_l1_P n r)) n (ptrim_l1_M h) ?_)
    rintro fu_l1 _ ⟨w0_2, m0_2, rfl, h⟩
    cases fu_l1 with
    | zero => cases h
    | succ fu_l1 =>
      refine ⟨fu_l1, rfl, ?_⟩
      rw [ptrim_l1] at h
      refine W_seq ?_
      refine W_seq ?_
      rcases Bool.eq_false_or_eq_true (decide ((0 : Int) < ((m0_2 : Nat) : Int))) with g1 | g1
      · replace h := bif_t h g1
        obtain ⟨g2, h⟩ := gd_some h
        obtain ⟨g3, h⟩ := gd_some h
        obtain ⟨g4, h⟩ := gd_some h
        refine W_reg hT ftL_nil [(3, true)] [] [0, 14] [0] (s' := ⟨[(0, .c (.wh 0)), (14, .c (.s (.b ((w0_2.getD ((((m0_2 : Nat) : Int) - 1).toNat) 0) == 0))))], [], [⟨(.ro false), 89, 1, m0_2, .w w0_2⟩]⟩) (by kernel_rfl) (allP_cons.2 ⟨g1, (allP_cons.2 ⟨g2, (allP_cons.2 ⟨g3, (allP_cons.2 ⟨g4, allP_nil⟩)⟩)⟩)⟩) ?_
        refine W_cond (b := ((w0_2.getD ((((m0_2 : Nat) : Int) - 1).toNat) 0) == 0)) (by kernel_rfl) (fun g8 => ?_) (fun g8 => ?_)
        · replace h := bif_t h g8
          refine W_co [] [0] [0] (s' := ⟨[(0, .c (.wh 0))], [], [⟨(.ro false), 89, 1, m0_2, .w w0_2⟩]⟩) (by kernel_rfl) (W_skip ?_)
          refine W_block ?_
          obtain ⟨g5, h⟩ := gd_some h
          obtain ⟨g6, h⟩ := gd_some h
          obtain ⟨g7, h⟩ := gd_some h
          refine W_reg hT ftL_nil [] [.vw 0 false] [0] [1] (s' := (ptrim_l1_E ((w0_2.drop 0).take ((((m0_2 : Nat) : Int) - 1).toNat)) ((((m0_2 : Nat) : Int) - 1).toNat))) (by kernel_rfl) (allP_cons.2 ⟨g5, (allP_cons.2 ⟨g6, (allP_cons.2 ⟨g7, allP_nil⟩)⟩)⟩) ?_
          exact ptrim_l1_M h
        · replace h := bif_f h g8
          refine W_co [] [0] [0] (s' := ⟨[(0, .c (.wh 0))], [], [⟨(.ro false), 89, 1, m0_2, .w w0_2⟩]⟩) (by kernel_rfl) (W_exit ?_)
          refine W_seq ?_
          refine W_reg hT ftL_nil [] [] [2] [0] (s' := ⟨[(2, .c (.wh 0))], [], [⟨(.ro false), 89, 1, m0_2, .w w0_2⟩]⟩) (by kernel_rfl) allP_nil ?_
          refine W_co [] [2] [0] (s' := (ptrim_R (w0_2, m0_2))) (by kernel_rfl) (W_ret ?_)
          exact ⟨.inl rfl, by cases h; rfl⟩
      · replace h := bif_f h g1
        refine W_reg hT ftL_nil [(3, false)] [] [0, 14] [0] (s' := ⟨[(0, .c (.wh 0)), (14, .c (.s (.b false)))], [], [⟨(.ro false), 89, 1, m0_2, .w w0_2⟩]⟩) (by kernel_rfl) (allP_cons.2 ⟨g1, allP_nil⟩) ?_
        refine W_cond (b := false) (by kernel_rfl) (fun hb => by cases hb) (fun _ => ?_)
        refine W_co [] [0] [0] (s' := ⟨[(0, .c (.wh 0))], [], [⟨(.ro false), 89, 1, m0_2, .w w0_2⟩]⟩) (by kernel_rfl) (W_exit ?_)
        refine W_seq ?_
        refine W_reg hT ftL_nil [] [] [2] [0] (s' := ⟨[(2, .c (.wh 0))], [], [⟨(.ro false), 89, 1, m0_2, .w w0_2⟩]⟩) (by kernel_rfl) allP_nil ?_
        refine W_co [] [2] [0] (s' := (ptrim_R (w0_2, m0_2))) (by kernel_rfl) (W_ret ?_)
        exact ⟨.inl rfl, by cases h; rfl⟩
  · rintro e s' ⟨he, rfl⟩
    refine ⟨he, fun a' w' hr => ?_⟩
    exact retS_ok tabO_pb hr (rs := [.tmp 2]) rfl (objs := [0]) (by kernel_rfl)
def pWrite_j1_E (a1 : Int) (r10 : List UInt32 × Nat) (i27_1 : Int) (l6_7 : List UInt8) : S := ⟨[(0, .c (.wh 0)), (1, .c (.s (.k .i64 a1))), (6, .c (.wh 1)), (26, .c (.s (.k .i64 (4 * ((r10.2 : Nat) : Int))))), (27, .c (.s (.k .i64 i27_1)))], [], [⟨(.ro false), 89, 1, r10.2, .w r10.1⟩, ⟨.row, 5, 1, a1.toNat, .b l6_7⟩]⟩
def pWrite_j1_P (n : Nat) (a1 : Int) (r10 : List UInt32 × Nat) (i27_1 : Int) (k_l1 : (List UInt8) → Int → Option (List UInt8 × Nat × Option Int)) (r : List UInt8 × Nat × Option Int) : S → Prop := fun s => ∃ (l6_7 : List UInt8), s = pWrite_j1_E a1 r10 i27_1 l6_7 ∧ pWrite_j1 n a1 r10 i27_1 k_l1 l6_7 = some r
theorem pWrite_j1_M {n : Nat} {a1 : Int} {r10 : List UInt32 × Nat} {i27_1 : Int} {k_l1 : (List UInt8) → Int → Option (List UInt8 × Nat × Option Int)} {l6_7 : List UInt8} {r : List UInt8 × Nat × Option Int} (h : pWrite_j1 n a1 r10 i27_1 k_l1 l6_7 = some r) : pWrite_j1_P n a1 r10 i27_1 k_l1 r (pWrite_j1_E a1 r10 i27_1 l6_7) := ⟨l6_7, rfl, h⟩
def pWrite_l1_E (a1 : Int) (r10 : List UInt32 × Nat) (l6_5 : List UInt8) (i27_1 : Int) : S := ⟨[(0, .c (.wh 0)), (1, .c (.s (.k .i64 a1))), (6, .c (.wh 1)), (26, .c (.s (.k .i64 (4 * ((r10.2 : Nat) : Int))))), (27, .c (.s (.k .i64 i27_1)))], [], [⟨(.ro false), 89, 1, r10.2, .w r10.1⟩, ⟨.row, 5, 1, a1.toNat, .b l6_5⟩]⟩
def pWrite_l1_P (n : Nat) (a1 : Int) (r10 : List UInt32 × Nat) (r : List UInt8 × Nat × Option Int) (fu : Nat) : S → Prop := fun s => ∃ (l6_5 : List UInt8), ∃ (i27_1 : Int), s = pWrite_l1_E a1 r10 l6_5 i27_1 ∧ pWrite_l1 n a1 r10 fu l6_5 i27_1 = some r
theorem pWrite_l1_M {n : Nat} {a1 : Int} {r10 : List UInt32 × Nat} {l6_5 : List UInt8} {i27_1 : Int} {r : List UInt8 × Nat × Option Int} {fu : Nat} (h : pWrite_l1 n a1 r10 fu l6_5 i27_1 = some r) : pWrite_l1_P n a1 r10 r fu (pWrite_l1_E a1 r10 l6_5 i27_1) := ⟨l6_5, i27_1, rfl, h⟩
def pWrite_R (r : List UInt8 × Nat × Option Int) : S := ⟨[(4, .c (.wh 0)), (5, .c (.s (.er 31 .i64 r.2.2)))], [], [⟨.row, 5, 1, r.2.1, .b r.1⟩]⟩
def pWrite_ct (n : Nat) (r : List UInt8 × Nat × Option Int) : Ct := fun args H => match args with
  | [x0, x1] => (match aW H x0 with | some l0 => (match aI x1 with | some l1 => some ([pWrite n l0 l1 = some r], shA H.length (.t [.c (.wh 0), .c (.s (.er 31 .i64 r.2.2))]), shH H.length [⟨.row, 5, 1, r.2.1, .b r.1⟩]) | none => none) | none => none)
  | _ => none
theorem pWrite_ok (n : Nat) (r : List UInt8 × Nat × Option Int) : FnOk Try.prog Tr 68 (pWrite_ct n r) := by
  refine ⟨fun args H g av objs hF hg ρ w vals hG hp ha => ?_, _, Try.func68, by kernel_rfl, by kernel_rfl⟩
  obtain ⟨x0, x1, rfl⟩ : ∃ x0 x1, args = [x0, x1] := by
    unfold pWrite_ct at hF; split at hF
    · exact ⟨_, _, rfl⟩
    · cases hF
  cases e0 : aW H x0 with
  | none => simp only [pWrite_ct, e0, reduceCtorEq] at hF
  | some l0 =>
  cases e1 : aI x1 with
  | none => simp only [pWrite_ct, e0, e1, reduceCtorEq] at hF
  | some l1 =>
  simp only [pWrite_ct, e0, e1, Option.some.injEq, Prod.mk.injEq] at hF
  obtain ⟨rfl, rfl, rfl⟩ := hF
  obtain ⟨v0, vals, rfl, k0, ha⟩ := F2.inv ha
  obtain ⟨v1, vals, rfl, k1, ha⟩ := F2.inv ha
  obtain rfl := F2.inv0 ha
  have hI : ∀ w', Kp (noB (fun _ => undef)) w w' → Tr w' := fun _ hk => Tr.keep hk.below hG
  have h : pWrite n l0 l1 = some r := hg
  obtain ⟨p0, s0, o0⟩ := aW_ok hp e0 (k0) 89
  have s1 := aI_ok e1 (k1)
  have hR0 := rel0 (gv := (fun _ => undef)) (n := 55) (w := w) (args := [.c (.wh 0), .c (.s (.k .i64 l1))]) (H := [⟨.ro false, 89, 1, l0.length, .w l0⟩]) (gl := []) (hpL (ps := [p0]) (F2.cons o0 F2.nil)) (allRo_ok rfl) (F2.cons s0 (F2.cons s1 F2.nil)) GlR.nil (by simp)
  clear ha hp hg k0 k1 e0 e1
  refine calls_W Try.func68 rfl rfl hR0 (Q := fun e s => (e = .ret ∨ e = .normal) ∧ s = pWrite_R r) ?_ ?_
  · clear hR0
    unfold pWrite at h
    have hT := tabO_pb
    refine W_seq ?_
    refine W_reg hT ftL_nil [] [] [0, 1] [0] (s' := ⟨[(0, .c (.wh 0)), (1, .c (.s (.k .i64 l1)))], [], [⟨(.ro false), 89, 1, l0.length, .w l0⟩]⟩) (by kernel_rfl) allP_nil ?_
    refine W_seq ?_
    obtain ⟨r10, g1, h⟩ := bind_some' h
    refine W_reg hT (ftL_cons (k := 1) (f := 83) (F := (ptrim_ct n r10)) (ptrim_ok n r10) (fun _ _ => True.intro) ftL_nil) [] [] [0, 1] [1] (s' := ⟨[(0, .c (.wh 0)), (1, .c (.s (.k .i64 l1)))], [], [⟨(.ro false), 89, 1, r10.2, .w r10.1⟩]⟩) (by kernel_rfl) (allP_cons.2 ⟨g1, allP_nil⟩) ?_
    refine W_seq ?_
    refine W_seq ?_
    refine W_reg hT ftL_nil [] [] [0, 1, 13] [0] (s' := ⟨[(0, .c (.wh 0)), (1, .c (.s (.k .i64 l1))), (13, .c (.s (.b (decide ((64 : Int) < ((r10.2 : Nat) : Int))))))], [], [⟨(.ro false), 89, 1, r10.2, .w r10.1⟩]⟩) (by kernel_rfl) allP_nil ?_
    refine W_cond (b := (decide ((64 : Int) < ((r10.2 : Nat) : Int)))) (by kernel_rfl) (fun g23 => ?_) (fun g23 => ?_)
    · replace h := bif_t h g23
      refine W_seq ?_
      refine W_reg hT ftL_nil [] [] [4, 5] [] (s' := ⟨[(4, .c (.nils)), (5, .c (.s (.er 31 .i64 (some 4))))], [], []⟩) (by kernel_rfl) allP_nil ?_
      refine W_co [.nil 4 5 1 (.b [])] [4, 5] [0] (s' := (pWrite_R ([], 0, (some 4)))) (by kernel_rfl) (W_ret ?_)
      exact ⟨.inl rfl, by cases h; rfl⟩
    · replace h := bif_f h g23
      refine W_co [] [0, 1] [0] (s' := ⟨[(0, .c (.wh 0)), (1, .c (.s (.k .i64 l1)))], [], [⟨(.ro false), 89, 1, r10.2, .w r10.1⟩]⟩) (by kernel_rfl) (W_skip ?_)
      refine W_seq ?_
      refine W_seq ?_
      rcases Bool.eq_false_or_eq_true (decide (l1 < (0 : Int))) with g2 | g2
      · replace h := bif_t h g2
        refine W_reg hT ftL_nil [(2, true)] [] [0, 1, 20] [0] (s' := ⟨[(0, .c (.wh 0)), (1, .c (.s (.k .i64 l1))), (20, .c (.s (.b true)))], [], [⟨(.ro false), 89, 1, r10.2, .w r10.1⟩]⟩) (by kernel_rfl) (allP_cons.2 ⟨g2, allP_nil⟩) ?_
        refine W_cond (b := true) (by kernel_rfl) (fun _ => ?_) (fun hb => by cases hb)
        refine W_seq ?_
        refine W_reg hT ftL_nil [] [] [4, 5] [] (s' := ⟨[(4, .c (.nils)), (5, .c (.s (.er 31 .i64 (some 1))))], [], []⟩) (by kernel_rfl) allP_nil ?_
        refine W_co [.nil 4 5 1 (.b [])] [4, 5] [0] (s' := (pWrite_R ([], 0, (some 1)))) (by kernel_rfl) (W_ret ?_)
        exact ⟨.inl rfl, by cases h; rfl⟩
      · replace h := bif_f h g2
        refine W_reg hT ftL_nil [(2, false)] [] [0, 1, 20] [0] (s' := ⟨[(0, .c (.wh 0)), (1, .c (.s (.k .i64 l1))), (20, .c (.s (.b (decide ((256 : Int) < l1)))))], [], [⟨(.ro false), 89, 1, r10.2, .w r10.1⟩]⟩) (by kernel_rfl) (allP_cons.2 ⟨g2, allP_nil⟩) ?_
        refine W_cond (b := (decide ((256 : Int) < l1))) (by kernel_rfl) (fun g22 => ?_) (fun g22 => ?_)
        · replace h := bif_t h g22
          refine W_seq ?_
          refine W_reg hT ftL_nil [] [] [4, 5] [] (s' := ⟨[(4, .c (.nils)), (5, .c (.s (.er 31 .i64 (some 1))))], [], []⟩) (by kernel_rfl) allP_nil ?_
          refine W_co [.nil 4 5 1 (.b [])] [4, 5] [0] (s' := (pWrite_R ([], 0, (some 1)))) (by kernel_rfl) (W_ret ?_)
          exact ⟨.inl rfl, by cases h; rfl⟩
        · replace h := bif_f h g22
          refine W_co [] [0, 1] [0] (s' := ⟨[(0, .c (.wh 0)), (1, .c (.s (.k .i64 l1)))], [], [⟨(.ro false), 89, 1, r10.2, .w r10.1⟩]⟩) (by kernel_rfl) (W_skip ?_)
          refine W_seq ?_
          obtain ⟨g3, h⟩ := gd_some h
          obtain ⟨g4, h⟩ := gd_some h
          obtain ⟨g5, h⟩ := gd_some h
          refine W_reg hT ftL_nil [] [] [0, 1, 6] [0, 1] (s' := ⟨[(0, .c (.wh 0)), (1, .c (.s (.k .i64 l1))), (6, .c (.wh 1))], [], [⟨(.ro false), 89, 1, r10.2, .w r10.1⟩, ⟨.row, 5, 1, l1.toNat, .b (List.replicate l1.toNat 0)⟩]⟩) (by kernel_rfl) (allP_cons.2 ⟨g3, (allP_cons.2 ⟨g4, (allP_cons.2 ⟨g5, allP_nil⟩)⟩)⟩) ?_
          refine W_seq ?_
          refine W_seq ?_
          obtain ⟨g6, h⟩ := gd_some h
          refine W_reg hT ftL_nil [] [] [0, 1, 6, 26, 27] [0, 1] (s' := ⟨[(0, .c (.wh 0)), (1, .c (.s (.k .i64 l1))), (6, .c (.wh 1)), (26, .c (.s (.k .i64 (4 * ((r10.2 : Nat) : Int))))), (27, .c (.s (.k .i64 0)))], [], [⟨(.ro false), 89, 1, r10.2, .w r10.1⟩, ⟨.row, 5, 1, l1.toNat, .b (List.replicate l1.toNat 0)⟩]⟩) (by kernel_rfl) (allP_cons.2 ⟨g6, allP_nil⟩) ?_
          refine W_block ?_
          refine W_co [] [0, 1, 6, 26, 27] [0, 1] (s' := (pWrite_l1_E l1 r10 (List.replicate l1.toNat 0) 0)) (by kernel_rfl) (W_lp ((pWrite_l1_P n l1 r10 r)) n (pWrite_l1_M h) ?_)
          rintro fu_l1 _ ⟨l6_5, i27_1, rfl, h⟩
          cases fu_l1 with
          | zero => cases h
          | succ fu_l1 =>
            refine ⟨fu_l1, rfl, ?_⟩
            rw [pWrite_l1] at h
            refine W_seq ?_
            refine W_reg hT ftL_nil [] [] [0, 1, 6, 26, 27, 28] [0, 1] (s' := ⟨[(0, .c (.wh 0)), (1, .c (.s (.k .i64 l1))), (6, .c (.wh 1)), (26, .c (.s (.k .i64 (4 * ((r10.2 : Nat) : Int))))), (27, .c (.s (.k .i64 i27_1))), (28, .c (.s (.b (decide (i27_1 < (4 * ((r10.2 : Nat) : Int)))))))], [], [⟨(.ro false), 89, 1, r10.2, .w r10.1⟩, ⟨.row, 5, 1, l1.toNat, .b l6_5⟩]⟩) (by kernel_rfl) allP_nil ?_
            refine W_seq ?_
            refine W_cond (b := (decide (i27_1 < (4 * ((r10.2 : Nat) : Int))))) (by kernel_rfl) (fun g21 => ?_) (fun g21 => ?_)
            · replace h := bif_t h g21
              refine W_co [] [0, 1, 6, 26, 27] [0, 1] (s' := ⟨[(0, .c (.wh 0)), (1, .c (.s (.k .i64 l1))), (6, .c (.wh 1)), (26, .c (.s (.k .i64 (4 * ((r10.2 : Nat) : Int))))), (27, .c (.s (.k .i64 i27_1)))], [], [⟨(.ro false), 89, 1, r10.2, .w r10.1⟩, ⟨.row, 5, 1, l1.toNat, .b l6_5⟩]⟩) (by kernel_rfl) (W_skip ?_)
              refine W_join (pWrite_j1_P n l1 r10 i27_1 (pWrite_l1 n l1 r10 fu_l1) r) ?_ ?_
              · rintro _ ⟨l6_7, rfl, h⟩
                unfold pWrite_j1 at h
                obtain ⟨g7, h⟩ := gd_some h
                refine W_reg hT ftL_nil [] [] [0, 1, 6, 26, 27] [0, 1] (s' := (pWrite_l1_E l1 r10 l6_7 (i27_1 + 1))) (by kernel_rfl) (allP_cons.2 ⟨g7, allP_nil⟩) ?_
                exact pWrite_l1_M h
              · refine W_block ?_
                refine W_seq ?_
                refine W_reg hT ftL_nil [] [] [0, 1, 6, 7, 26, 27] [0, 1] (s' := ⟨[(0, .c (.wh 0)), (1, .c (.s (.k .i64 l1))), (6, .c (.wh 1)), (7, .c (.s (.k .i64 i27_1))), (26, .c (.s (.k .i64 (4 * ((r10.2 : Nat) : Int))))), (27, .c (.s (.k .i64 i27_1)))], [], [⟨(.ro false), 89, 1, r10.2, .w r10.1⟩, ⟨.row, 5, 1, l1.toNat, .b l6_5⟩]⟩) (by kernel_rfl) allP_nil ?_
                refine W_seq ?_
                obtain ⟨g8, h⟩ := gd_some h
                obtain ⟨g9, h⟩ := gd_some h
                obtain ⟨g10, h⟩ := gd_some h
                obtain ⟨g11, h⟩ := gd_some h
                obtain ⟨g12, h⟩ := gd_some h
                obtain ⟨g13, h⟩ := gd_some h
                obtain ⟨g14, h⟩ := gd_some h
                refine W_reg hT ftL_nil [] [] [0, 1, 6, 7, 8, 26, 27] [0, 1] (s' := ⟨[(0, .c (.wh 0)), (1, .c (.s (.k .i64 l1))), (6, .c (.wh 1)), (7, .c (.s (.k .i64 i27_1))), (8, .c (.s (.u8 ((shr32 (r10.1.getD ((Int.tdiv i27_1 4).toNat) 0) (8 * (Int.tmod i27_1 4))).toUInt8)))), (26, .c (.s (.k .i64 (4 * ((r10.2 : Nat) : Int))))), (27, .c (.s (.k .i64 i27_1)))], [], [⟨(.ro false), 89, 1, r10.2, .w r10.1⟩, ⟨.row, 5, 1, l1.toNat, .b l6_5⟩]⟩) (by kernel_rfl) (allP_cons.2 ⟨g8, (allP_cons.2 ⟨g9, (allP_cons.2 ⟨g10, (allP_cons.2 ⟨g11, (allP_cons.2 ⟨g12, (allP_cons.2 ⟨g13, (allP_cons.2 ⟨g14, allP_nil⟩)⟩)⟩)⟩)⟩)⟩)⟩) ?_
                refine W_seq ?_
                refine W_reg hT ftL_nil [] [] [0, 1, 6, 7, 8, 26, 27, 42] [0, 1] (s' := ⟨[(0, .c (.wh 0)), (1, .c (.s (.k .i64 l1))), (6, .c (.wh 1)), (7, .c (.s (.k .i64 i27_1))), (8, .c (.s (.u8 ((shr32 (r10.1.getD ((Int.tdiv i27_1 4).toNat) 0) (8 * (Int.tmod i27_1 4))).toUInt8)))), (26, .c (.s (.k .i64 (4 * ((r10.2 : Nat) : Int))))), (27, .c (.s (.k .i64 i27_1))), (42, .c (.s (.b (decide (i27_1 < l1)))))], [], [⟨(.ro false), 89, 1, r10.2, .w r10.1⟩, ⟨.row, 5, 1, l1.toNat, .b l6_5⟩]⟩) (by kernel_rfl) allP_nil ?_
                refine W_cond (b := (decide (i27_1 < l1))) (by kernel_rfl) (fun g20 => ?_) (fun g20 => ?_)
                · replace h := bif_t h g20
                  obtain ⟨g15, h⟩ := gd_some h
                  obtain ⟨g16, h⟩ := gd_some h
                  obtain ⟨g17, h⟩ := gd_some h
                  obtain ⟨g18, h⟩ := gd_some h
                  refine W_reg hT ftL_nil [] [] [0, 1, 6, 26, 27] [0, 1] (s' := (pWrite_j1_E l1 r10 i27_1 (l6_5.set (((l1 - 1) - i27_1).toNat) ((shr32 (r10.1.getD ((Int.tdiv i27_1 4).toNat) 0) (8 * (Int.tmod i27_1 4))).toUInt8)))) (by kernel_rfl) (allP_cons.2 ⟨g15, (allP_cons.2 ⟨g16, (allP_cons.2 ⟨g17, (allP_cons.2 ⟨g18, allP_nil⟩)⟩)⟩)⟩) ?_
                  exact pWrite_j1_M h
                · replace h := bif_f h g20
                  refine W_seq ?_
                  refine W_reg hT ftL_nil [] [] [0, 1, 6, 26, 27, 51] [0, 1] (s' := ⟨[(0, .c (.wh 0)), (1, .c (.s (.k .i64 l1))), (6, .c (.wh 1)), (26, .c (.s (.k .i64 (4 * ((r10.2 : Nat) : Int))))), (27, .c (.s (.k .i64 i27_1))), (51, .c (.s (.b (((shr32 (r10.1.getD ((Int.tdiv i27_1 4).toNat) 0) (8 * (Int.tmod i27_1 4))).toUInt8) != 0))))], [], [⟨(.ro false), 89, 1, r10.2, .w r10.1⟩, ⟨.row, 5, 1, l1.toNat, .b l6_5⟩]⟩) (by kernel_rfl) allP_nil ?_
                  refine W_cond (b := (((shr32 (r10.1.getD ((Int.tdiv i27_1 4).toNat) 0) (8 * (Int.tmod i27_1 4))).toUInt8) != 0)) (by kernel_rfl) (fun g19 => ?_) (fun g19 => ?_)
                  · replace h := bif_t h g19
                    refine W_seq ?_
                    refine W_reg hT ftL_nil [] [] [4, 5] [] (s' := ⟨[(4, .c (.nils)), (5, .c (.s (.er 31 .i64 (some 1))))], [], []⟩) (by kernel_rfl) allP_nil ?_
                    refine W_co [.nil 4 5 1 (.b [])] [4, 5] [0] (s' := (pWrite_R ([], 0, (some 1)))) (by kernel_rfl) (W_ret ?_)
                    exact ⟨.inl rfl, by cases h; rfl⟩
                  · replace h := bif_f h g19
                    refine W_co [] [0, 1, 6, 26, 27] [0, 1] (s' := (pWrite_j1_E l1 r10 i27_1 l6_5)) (by kernel_rfl) (W_skip ?_)
                    exact pWrite_j1_M h
            · replace h := bif_f h g21
              refine W_co [] [6] [1] (s' := ⟨[(6, .c (.wh 0))], [], [⟨.row, 5, 1, l1.toNat, .b l6_5⟩]⟩) (by kernel_rfl) (W_exit ?_)
              refine W_seq ?_
              refine W_reg hT ftL_nil [] [] [4, 5] [0] (s' := ⟨[(4, .c (.wh 0)), (5, .c (.s (.v .nilIface)))], [], [⟨.row, 5, 1, l1.toNat, .b l6_5⟩]⟩) (by kernel_rfl) allP_nil ?_
              refine W_co [.er 5 31 .i64] [4, 5] [0] (s' := (pWrite_R (l6_5, l1.toNat, none))) (by kernel_rfl) (W_ret ?_)
              exact ⟨.inl rfl, by cases h; rfl⟩
  · rintro e s' ⟨he, rfl⟩
    refine ⟨he, fun a' w' hr => ?_⟩
    exact retS_ok tabO_pb hr (rs := [.tmp 4, .tmp 5]) rfl (objs := [0]) (by kernel_rfl)
def pBig_j1_E (l4_4 : List UInt8) (m4_4 : Nat) : S := ⟨[(4, .c (.wh 0))], [], [⟨(.ro true), 5, 1, m4_4, .b l4_4⟩]⟩
def pBig_j1_P (n : Nat) (r : List UInt8 × Option Int) : S → Prop := fun s => ∃ (l4_4 : List UInt8), ∃ (m4_4 : Nat), s = pBig_j1_E l4_4 m4_4 ∧ pBig_j1 n l4_4 m4_4 = some r
theorem pBig_j1_M {n : Nat} {l4_4 : List UInt8} {m4_4 : Nat} {r : List UInt8 × Option Int} (h : pBig_j1 n l4_4 m4_4 = some r) : pBig_j1_P n r (pBig_j1_E l4_4 m4_4) := ⟨l4_4, m4_4, rfl, h⟩
def pBig_l1_E (l4_5 : List UInt8) (m4_5 : Nat) : S := ⟨[(4, .c (.wh 0))], [], [⟨(.ro true), 5, 1, m4_5, .b l4_5⟩]⟩
def pBig_l1_P (n : Nat) (r : List UInt8 × Option Int) (fu : Nat) : S → Prop := fun s => ∃ (l4_5 : List UInt8), ∃ (m4_5 : Nat), s = pBig_l1_E l4_5 m4_5 ∧ pBig_l1 n fu l4_5 m4_5 = some r
theorem pBig_l1_M {n : Nat} {l4_5 : List UInt8} {m4_5 : Nat} {r : List UInt8 × Option Int} {fu : Nat} (h : pBig_l1 n fu l4_5 m4_5 = some r) : pBig_l1_P n r fu (pBig_l1_E l4_5 m4_5) := ⟨l4_5, m4_5, rfl, h⟩
def pBig_R (r : List UInt8 × Option Int) : S := ⟨[(2, .c (.wh 0)), (3, .c (.s (.er 31 .i64 r.2)))], [], [⟨.row, 5, 1, r.1.length, .b r.1⟩]⟩
def pBig_ct (n : Nat) (r : List UInt8 × Option Int) : Ct := fun args H => match args with
  | [x0] => (match aW H x0 with | some l0 => some ([pBig n l0 = some r], shA H.length (.t [.c (.wh 0), .c (.s (.er 31 .i64 r.2))]), shH H.length [⟨.row, 5, 1, r.1.length, .b r.1⟩]) | none => none)
  | _ => none
theorem pBig_ok (n : Nat) (r : List UInt8 × Option Int) : FnOk Try.prog Tr 38 (pBig_ct n r) := by
  refine ⟨fun args H g av objs hF hg ρ w vals hG hp ha => ?_, _, Try.func38, by kernel_rfl, by kernel_rfl⟩
  obtain ⟨x0, rfl⟩ : ∃ x0, args = [x0] := by
    unfold pBig_ct at hF; split at hF
    · exact ⟨_, rfl⟩
    · cases hF
  cases e0 : aW H x0 with
  | none => simp only [pBig_ct, e0, reduceCtorEq] at hF
  | some l0 =>
  simp only [pBig_ct, e0, Option.some.injEq, Prod.mk.injEq] at hF
  obtain ⟨rfl, rfl, rfl⟩ := hF
  obtain ⟨v0, vals, rfl, k0, ha⟩ := F2.inv ha
  obtain rfl := F2.inv0 ha
  have hI : ∀ w', Kp (noB (fun _ => undef)) w w' → Tr w' := fun _ hk => Tr.keep hk.below hG
  have h : pBig n l0 = some r := hg
  obtain ⟨p0, s0, o0⟩ := aW_ok hp e0 (k0) 89
  have hR0 := rel0 (gv := (fun _ => undef)) (n := 28) (w := w) (args := [.c (.wh 0)]) (H := [⟨.ro false, 89, 1, l0.length, .w l0⟩]) (gl := []) (hpL (ps := [p0]) (F2.cons o0 F2.nil)) (allRo_ok rfl) (F2.cons s0 F2.nil) GlR.nil (by simp)
  clear ha hp hg k0 e0
  refine calls_W Try.func38 rfl rfl hR0 (Q := fun e s => (e = .ret ∨ e = .normal) ∧ s = pBig_R r) ?_ ?_
  · clear hR0
    unfold pBig at h
    have hT := tabO_pb
    refine W_seq ?_
    refine W_reg hT ftL_nil [] [] [0] [0] (s' := ⟨[(0, .c (.wh 0))], [], [⟨(.ro false), 89, 1, l0.length, .w l0⟩]⟩) (by kernel_rfl) allP_nil ?_
    refine W_seq ?_
    obtain ⟨r8, g1, h⟩ := bind_some' h
    refine W_reg hT (ftL_cons (k := 1) (f := 68) (F := (pWrite_ct n r8)) (pWrite_ok n r8) (fun _ _ => True.intro) ftL_nil) [] [] [4, 5] [1] (s' := ⟨[(4, .c (.wh 0)), (5, .c (.s (.er 31 .i64 r8.2.2)))], [], [⟨.row, 5, 1, r8.2.1, .b r8.1⟩]⟩) (by kernel_rfl) (allP_cons.2 ⟨g1, allP_nil⟩) ?_
    refine W_seq ?_
    refine W_seq ?_
    refine W_reg hT ftL_nil [] [] [4, 12] [0] (s' := ⟨[(4, .c (.wh 0)), (12, .c (.s (.b (!((r8.2.2).isNone)))))], [], [⟨.row, 5, 1, r8.2.1, .b r8.1⟩]⟩) (by kernel_rfl) allP_nil ?_
    refine W_cond (b := (!((r8.2.2).isNone))) (by kernel_rfl) (fun g9 => ?_) (fun g9 => ?_)
    · replace h := bif_t h g9
      refine W_seq ?_
      refine W_reg hT ftL_nil [] [] [2, 3] [] (s' := ⟨[(2, .c (.nils)), (3, .c (.s (.er 31 .i64 (some 4))))], [], []⟩) (by kernel_rfl) allP_nil ?_
      refine W_co [.nil 2 5 1 (.b [])] [2, 3] [0] (s' := (pBig_R ([], (some 4)))) (by kernel_rfl) (W_ret ?_)
      exact ⟨.inl rfl, by cases h; rfl⟩
    · replace h := bif_f h g9
      refine W_co [] [4] [0] (s' := ⟨[(4, .c (.wh 0))], [], [⟨.row, 5, 1, r8.2.1, .b r8.1⟩]⟩) (by kernel_rfl) (W_skip ?_)
      refine W_seq ?_
      obtain ⟨g2, h⟩ := gd_some h
      refine W_reg hT ftL_nil [] [] [4] [2] (s' := ⟨[(4, .c (.wh 0))], [], [⟨.row, 5, 1, ([0] ++ r8.1).length, .b ([0] ++ r8.1)⟩]⟩) (by kernel_rfl) (allP_cons.2 ⟨g2, allP_nil⟩) ?_
      refine W_join (pBig_j1_P n r) ?_ ?_
      · rintro _ ⟨l4_4, m4_4, rfl, h⟩
        unfold pBig_j1 at h
        refine W_seq ?_
        obtain ⟨g3, h⟩ := gd_some h
        refine W_reg hT (ftL_cons (k := 1) (f := 49) (F := cloneb_ct) cloneb_h (fun _ _ => True.intro) ftL_nil) [] [] [2, 3] [1] (s' := ⟨[(2, .c (.wh 0)), (3, .c (.s (.v .nilIface)))], [], [⟨.row, 5, 1, l4_4.length, .b l4_4⟩]⟩) (by kernel_rfl) (allP_cons.2 ⟨g3, allP_nil⟩) ?_
        refine W_co [.er 3 31 .i64] [2, 3] [0] (s' := (pBig_R (l4_4, none))) (by kernel_rfl) (W_ret ?_)
        exact ⟨.inl rfl, by cases h; rfl⟩
      · refine W_block ?_
        refine W_co [.vw 4 true] [4] [1] (s' := (pBig_l1_E ([0] ++ r8.1) (([0] ++ r8.1).length))) (by kernel_rfl) (W_lp ((pBig_l1_P n r)) n (pBig_l1_M h) ?_)
        rintro fu_l1 _ ⟨l4_5, m4_5, rfl, h⟩
        cases fu_l1 with
        | zero => cases h
        | succ fu_l1 =>
          refine ⟨fu_l1, rfl, ?_⟩
          rw [pBig_l1] at h
          refine W_seq ?_
          refine W_seq ?_
          rcases Bool.eq_false_or_eq_true (decide ((1 : Int) < ((m4_5 : Nat) : Int))) with g4 | g4
          · replace h := bif_t h g4
            obtain ⟨r22_4, g5, h⟩ := bind_some' h
            refine W_reg hT (ftL_cons (k := 5) (f := 48) (F := (pspare_ct n r22_4)) (pspare_ok n r22_4) (fun _ _ => True.intro) ftL_nil) [(3, true)] [] [4, 23] [0] (s' := ⟨[(4, .c (.wh 0)), (23, .c (.s (.b r22_4)))], [], [⟨(.ro true), 5, 1, m4_5, .b l4_5⟩]⟩) (by kernel_rfl) (allP_cons.2 ⟨g4, (allP_cons.2 ⟨g5, allP_nil⟩)⟩) ?_
            refine W_cond (b := r22_4) (by kernel_rfl) (fun g8 => ?_) (fun g8 => ?_)
            · replace h := bif_t h g8
              refine W_co [] [4] [0] (s' := ⟨[(4, .c (.wh 0))], [], [⟨(.ro true), 5, 1, m4_5, .b l4_5⟩]⟩) (by kernel_rfl) (W_skip ?_)
              refine W_block ?_
              obtain ⟨g6, h⟩ := gd_some h
              obtain ⟨g7, h⟩ := gd_some h
              refine W_reg hT ftL_nil [] [.vw 4 true] [4] [1] (s' := (pBig_l1_E ((l4_5.drop 1).take (m4_5 - 1)) (m4_5 - 1))) (by kernel_rfl) (allP_cons.2 ⟨g6, (allP_cons.2 ⟨g7, allP_nil⟩)⟩) ?_
              exact pBig_l1_M h
            · replace h := bif_f h g8
              refine W_co [] [4] [0] (s' := (pBig_j1_E l4_5 m4_5)) (by kernel_rfl) (W_exit ?_)
              exact pBig_j1_M h
          · replace h := bif_f h g4
            refine W_reg hT ftL_nil [(3, false)] [] [4, 23] [0] (s' := ⟨[(4, .c (.wh 0)), (23, .c (.s (.b false)))], [], [⟨(.ro true), 5, 1, m4_5, .b l4_5⟩]⟩) (by kernel_rfl) (allP_cons.2 ⟨g4, allP_nil⟩) ?_
            refine W_cond (b := false) (by kernel_rfl) (fun hb => by cases hb) (fun _ => ?_)
            refine W_co [] [4] [0] (s' := (pBig_j1_E l4_5 m4_5)) (by kernel_rfl) (W_exit ?_)
            exact pBig_j1_M h
  · rintro e s' ⟨he, rfl⟩
    refine ⟨he, fun a' w' hr => ?_⟩
    exact retS_ok tabO_pb hr (rs := [.tmp 2, .tmp 3]) rfl (objs := [0]) (by kernel_rfl)
def rtrim_l1_E (a0 : List Int) (i3_2 : Int) : S := ⟨[(0, .c (.wh 0)), (3, .c (.s (.k .i64 i3_2)))], [(1000000, .c (.wh 0))], [⟨(.ro false), 3, 1, a0.length, .z a0⟩]⟩
def rtrim_l1_P (n : Nat) (a0 : List Int) (r : List Int × Nat) (fu : Nat) : S → Prop := fun s => ∃ (i3_2 : Int), s = rtrim_l1_E a0 i3_2 ∧ rtrim_l1 n a0 fu i3_2 = some r
theorem rtrim_l1_M {n : Nat} {a0 : List Int} {i3_2 : Int} {r : List Int × Nat} {fu : Nat} (h : rtrim_l1 n a0 fu i3_2 = some r) : rtrim_l1_P n a0 r fu (rtrim_l1_E a0 i3_2) := ⟨i3_2, rfl, h⟩
def rtrim_R (r : List Int × Nat) : S := ⟨[(2, .c (.sl 0 0 r.2))], [(1000000, .c (.wh 0))], [⟨(.ro false), 3, 1, r.1.length, .z r.1⟩]⟩
def rtrim_ct (n : Nat) (r : List Int × Nat) : Ct := fun args H => match args with
  | [x0] => (match aZ H x0 with | some l0 => (match subC 0 r.2 x0 with | some ys => some ([rtrim n l0 = some r], ys, []) | none => none) | none => none)
  | _ => none
theorem rtrim_ok (n : Nat) (r : List Int × Nat) : FnOk Try.prog Tr 71 (rtrim_ct n r) := by
  refine ⟨fun args H g av objs hF hg ρ w vals hG hp ha => ?_, _, Try.func71, by kernel_rfl, by kernel_rfl⟩
  obtain ⟨x0, rfl⟩ : ∃ x0, args = [x0] := by
    unfold rtrim_ct at hF; split at hF
    · exact ⟨_, rfl⟩
    · cases hF
  cases e0 : aZ H x0 with
  | none => simp only [rtrim_ct, e0, reduceCtorEq] at hF
  | some l0 =>
  cases e1 : subC 0 r.2 x0 with
  | none => simp only [rtrim_ct, e0, e1, reduceCtorEq] at hF
  | some ys =>
  simp only [rtrim_ct, e0, e1, Option.some.injEq, Prod.mk.injEq] at hF
  obtain ⟨rfl, rfl, rfl⟩ := hF
  obtain ⟨v0, vals, rfl, k0, ha⟩ := F2.inv ha
  obtain rfl := F2.inv0 ha
  have hI : ∀ w', Kp (noB (fun j => ([v0] : List Value).getD j undef)) w w' → Tr w' := fun _ hk => Tr.keep hk.below hG
  have h : rtrim n l0 = some r := hg
  obtain ⟨p0, s0, o0⟩ := aZ_ok hp e0 (k0) 3
  have kk := k0
  have zz := aZ_sz hp e0
  have hR0 := rel0 (gv := (fun j => ([v0] : List Value).getD j undef)) (n := 21) (w := w) (args := [.c (.wh 0)]) (H := [⟨.ro false, 3, 1, l0.length, .z l0⟩]) (gl := [(1000000, .c (.wh 0))]) (hpL (ps := [p0]) (F2.cons o0 F2.nil)) (allRo_ok rfl) (F2.cons s0 F2.nil) (GlR.cons 0 s0 GlR.nil) (by simp)
  clear ha hp hg k0 e0
  refine calls_W Try.func71 rfl rfl hR0 (Q := fun e s => (e = .ret ∨ e = .normal) ∧ s = rtrim_R r) ?_ ?_
  · clear hR0
    unfold rtrim at h
    have hT := tabO_pb
    refine W_seq ?_
    refine W_reg hT ftL_nil [] [] [0] [0] (s' := ⟨[(0, .c (.wh 0))], [(1000000, .c (.wh 0))], [⟨(.ro false), 3, 1, l0.length, .z l0⟩]⟩) (by kernel_rfl) allP_nil ?_
    refine W_seq ?_
    refine W_reg hT ftL_nil [] [] [0, 3] [0] (s' := ⟨[(0, .c (.wh 0)), (3, .c (.s (.k .i64 ((l0.length : Nat) : Int))))], [(1000000, .c (.wh 0))], [⟨(.ro false), 3, 1, l0.length, .z l0⟩]⟩) (by kernel_rfl) allP_nil ?_
    refine W_seq ?_
    refine W_block ?_
    refine W_co [] [0, 3] [0] (s' := (rtrim_l1_E l0 ((l0.length : Nat) : Int))) (by kernel_rfl) (W_lp ((rtrim_l1_P n l0 r)) n (rtrim_l1_M h) ?_)
    rintro fu_l1 _ ⟨i3_2, rfl, h⟩
    cases fu_l1 with
    | zero => cases h
    | succ fu_l1 =>
      refine ⟨fu_l1, rfl, ?_⟩
      rw [rtrim_l1] at h
      refine W_seq ?_
      refine W_seq ?_
      rcases Bool.eq_false_or_eq_true (decide ((0 : Int) < i3_2)) with g1 | g1
      · replace h := bif_t h g1
        obtain ⟨g2, h⟩ := gd_some h
        obtain ⟨g3, h⟩ := gd_some h
        obtain ⟨g4, h⟩ := gd_some h
        refine W_reg hT ftL_nil [(2, true)] [] [0, 3, 15] [0] (s' := ⟨[(0, .c (.wh 0)), (3, .c (.s (.k .i64 i3_2))), (15, .c (.s (.b ((l0.getD ((i3_2 - 1).toNat) 0) == 0))))], [(1000000, .c (.wh 0))], [⟨(.ro false), 3, 1, l0.length, .z l0⟩]⟩) (by kernel_rfl) (allP_cons.2 ⟨g1, (allP_cons.2 ⟨g2, (allP_cons.2 ⟨g3, (allP_cons.2 ⟨g4, allP_nil⟩)⟩)⟩)⟩) ?_
        refine W_cond (b := ((l0.getD ((i3_2 - 1).toNat) 0) == 0)) (by kernel_rfl) (fun g8 => ?_) (fun g8 => ?_)
        · replace h := bif_t h g8
          refine W_co [] [0, 3] [0] (s' := ⟨[(0, .c (.wh 0)), (3, .c (.s (.k .i64 i3_2)))], [(1000000, .c (.wh 0))], [⟨(.ro false), 3, 1, l0.length, .z l0⟩]⟩) (by kernel_rfl) (W_skip ?_)
          refine W_block ?_
          obtain ⟨g5, h⟩ := gd_some h
          refine W_reg hT ftL_nil [] [] [0, 3] [0] (s' := (rtrim_l1_E l0 (i3_2 - 1))) (by kernel_rfl) (allP_cons.2 ⟨g5, allP_nil⟩) ?_
          exact rtrim_l1_M h
        · replace h := bif_f h g8
          refine W_co [] [0, 3] [0] (s' := ⟨[(0, .c (.wh 0)), (3, .c (.s (.k .i64 i3_2)))], [(1000000, .c (.wh 0))], [⟨(.ro false), 3, 1, l0.length, .z l0⟩]⟩) (by kernel_rfl) (W_exit ?_)
          refine W_seq ?_
          obtain ⟨g6, h⟩ := gd_some h
          obtain ⟨g7, h⟩ := gd_some h
          refine W_reg hT ftL_nil [] [] [2] [0] (s' := ⟨[(2, .c (.sl 0 0 i3_2.toNat))], [(1000000, .c (.wh 0))], [⟨(.ro false), 3, 1, l0.length, .z l0⟩]⟩) (by kernel_rfl) (allP_cons.2 ⟨g6, (allP_cons.2 ⟨g7, allP_nil⟩)⟩) ?_
          refine W_co [] [2] [0] (s' := (rtrim_R (l0, i3_2.toNat))) (by kernel_rfl) (W_ret ?_)
          exact ⟨.inl rfl, by cases h; rfl⟩
      · replace h := bif_f h g1
        refine W_reg hT ftL_nil [(2, false)] [] [0, 3, 15] [0] (s' := ⟨[(0, .c (.wh 0)), (3, .c (.s (.k .i64 i3_2))), (15, .c (.s (.b false)))], [(1000000, .c (.wh 0))], [⟨(.ro false), 3, 1, l0.length, .z l0⟩]⟩) (by kernel_rfl) (allP_cons.2 ⟨g1, allP_nil⟩) ?_
        refine W_cond (b := false) (by kernel_rfl) (fun hb => by cases hb) (fun _ => ?_)
        refine W_co [] [0, 3] [0] (s' := ⟨[(0, .c (.wh 0)), (3, .c (.s (.k .i64 i3_2)))], [(1000000, .c (.wh 0))], [⟨(.ro false), 3, 1, l0.length, .z l0⟩]⟩) (by kernel_rfl) (W_exit ?_)
        refine W_seq ?_
        obtain ⟨g9, h⟩ := gd_some h
        obtain ⟨g10, h⟩ := gd_some h
        refine W_reg hT ftL_nil [] [] [2] [0] (s' := ⟨[(2, .c (.sl 0 0 i3_2.toNat))], [(1000000, .c (.wh 0))], [⟨(.ro false), 3, 1, l0.length, .z l0⟩]⟩) (by kernel_rfl) (allP_cons.2 ⟨g9, (allP_cons.2 ⟨g10, allP_nil⟩)⟩) ?_
        refine W_co [] [2] [0] (s' := (rtrim_R (l0, i3_2.toNat))) (by kernel_rfl) (W_ret ?_)
        exact ⟨.inl rfl, by cases h; rfl⟩
  · rintro e s' ⟨he, rfl⟩
    refine ⟨he, fun a' w' hr => ?_⟩
    exact retB_ok (q := 0) hr rfl rfl rfl (by kernel_rfl) kk zz e1
def rOf_l1_E (a0 : List UInt32) (z3_2 : List Int) (i4_2 : Int) : S := ⟨[(0, .c (.wh 0)), (3, .c (.wh 1)), (4, .c (.s (.k .i64 i4_2)))], [], [⟨(.ro false), 89, 1, a0.length, .w a0⟩, ⟨.row, 3, 1, z3_2.length, .z z3_2⟩]⟩
def rOf_l1_P (n : Nat) (a0 : List UInt32) (r : List Int × Nat) (fu : Nat) : S → Prop := fun s => ∃ (z3_2 : List Int), ∃ (i4_2 : Int), s = rOf_l1_E a0 z3_2 i4_2 ∧ rOf_l1 n a0 fu z3_2 i4_2 = some r
theorem rOf_l1_M {n : Nat} {a0 : List UInt32} {z3_2 : List Int} {i4_2 : Int} {r : List Int × Nat} {fu : Nat} (h : rOf_l1 n a0 fu z3_2 i4_2 = some r) : rOf_l1_P n a0 r fu (rOf_l1_E a0 z3_2 i4_2) := ⟨z3_2, i4_2, rfl, h⟩
def rOf_R (r : List Int × Nat) : S := ⟨[(2, .c (.wh 0))], [], [⟨(.ro true), 3, 1, r.2, .z r.1⟩]⟩
def rOf_ct (n : Nat) (r : List Int × Nat) : Ct := fun args H => match args with
  | [x0] => (match aW H x0 with | some l0 => some ([rOf n l0 = some r], shA H.length (.c (.wh 0)), shH H.length [⟨(.ro true), 3, 1, r.2, .z r.1⟩]) | none => none)
  | _ => none
theorem rOf_ok (n : Nat) (r : List Int × Nat) : FnOk Try.prog Tr 47 (rOf_ct n r) := by
  refine ⟨fun args H g av objs hF hg ρ w vals hG hp ha => ?_, _, Try.func47, by kernel_rfl, by kernel_rfl⟩
  obtain ⟨x0, rfl⟩ : ∃ x0, args = [x0] := by
    unfold rOf_ct at hF; split at hF
    · exact ⟨_, rfl⟩
    · cases hF
  cases e0 : aW H x0 with
  | none => simp only [rOf_ct, e0, reduceCtorEq] at hF
  | some l0 =>
  simp only [rOf_ct, e0, Option.some.injEq, Prod.mk.injEq] at hF
  obtain ⟨rfl, rfl, rfl⟩ := hF
  obtain ⟨v0, vals, rfl, k0, ha⟩ := F2.inv ha
  obtain rfl := F2.inv0 ha
  have hI : ∀ w', Kp (noB (fun _ => undef)) w w' → Tr w' := fun _ hk => Tr.keep hk.below hG
  have h : rOf n l0 = some r := hg
  obtain ⟨p0, s0, o0⟩ := aW_ok hp e0 (k0) 89
  have hR0 := rel0 (gv := (fun _ => undef)) (n := 28) (w := w) (args := [.c (.wh 0)]) (H := [⟨.ro false, 89, 1, l0.length, .w l0⟩]) (gl := []) (hpL (ps := [p0]) (F2.cons o0 F2.nil)) (allRo_ok rfl) (F2.cons s0 F2.nil) GlR.nil (by simp)
  clear ha hp hg k0 e0
  refine calls_W Try.func47 rfl rfl hR0 (Q := fun e s => (e = .ret ∨ e = .normal) ∧ s = rOf_R r) ?_ ?_
  · clear hR0
    unfold rOf at h
    have hT := tabO_pb
    refine W_seq ?_
    refine W_reg hT ftL_nil [] [] [0] [0] (s' := ⟨[(0, .c (.wh 0))], [], [⟨(.ro false), 89, 1, l0.length, .w l0⟩]⟩) (by kernel_rfl) allP_nil ?_
    refine W_seq ?_
    refine W_reg hT ftL_nil [] [] [0, 3] [0] (s' := ⟨[(0, .c (.wh 0)), (3, .c (.nils))], [], [⟨(.ro false), 89, 1, l0.length, .w l0⟩]⟩) (by kernel_rfl) allP_nil ?_
    refine W_seq ?_
    refine W_seq ?_
    refine W_reg hT ftL_nil [] [] [0, 3, 4] [0] (s' := ⟨[(0, .c (.wh 0)), (3, .c (.nils)), (4, .c (.s (.k .i64 0)))], [], [⟨(.ro false), 89, 1, l0.length, .w l0⟩]⟩) (by kernel_rfl) allP_nil ?_
    refine W_block ?_
    refine W_co [.nil 3 3 1 (.z [])] [0, 3, 4] [0, 1] (s' := (rOf_l1_E l0 [] 0)) (by kernel_rfl) (W_lp ((rOf_l1_P n l0 r)) n (rOf_l1_M h) ?_)
    rintro fu_l1 _ ⟨z3_2, i4_2, rfl, h⟩
    cases fu_l1 with
    | zero => cases h
    | succ fu_l1 =>
      refine ⟨fu_l1, rfl, ?_⟩
      rw [rOf_l1] at h
      refine W_seq ?_
      refine W_seq ?_
      refine W_reg hT ftL_nil [] [] [0, 3, 4, 8] [0, 1] (s' := ⟨[(0, .c (.wh 0)), (3, .c (.wh 1)), (4, .c (.s (.k .i64 i4_2))), (8, .c (.s (.b (decide (i4_2 < ((l0.length : Nat) : Int))))))], [], [⟨(.ro false), 89, 1, l0.length, .w l0⟩, ⟨.row, 3, 1, z3_2.length, .z z3_2⟩]⟩) (by kernel_rfl) allP_nil ?_
      refine W_cond (b := (decide (i4_2 < ((l0.length : Nat) : Int)))) (by kernel_rfl) (fun g10 => ?_) (fun g10 => ?_)
      · replace h := bif_t h g10
        refine W_co [] [0, 3, 4] [0, 1] (s' := ⟨[(0, .c (.wh 0)), (3, .c (.wh 1)), (4, .c (.s (.k .i64 i4_2)))], [], [⟨(.ro false), 89, 1, l0.length, .w l0⟩, ⟨.row, 3, 1, z3_2.length, .z z3_2⟩]⟩) (by kernel_rfl) (W_skip ?_)
        refine W_seq ?_
        refine W_block ?_
        obtain ⟨g1, h⟩ := gd_some h
        obtain ⟨g2, h⟩ := gd_some h
        obtain ⟨g3, h⟩ := gd_some h
        obtain ⟨g4, h⟩ := gd_some h
        obtain ⟨g5, h⟩ := gd_some h
        obtain ⟨g6, h⟩ := gd_some h
        obtain ⟨g7, h⟩ := gd_some h
        refine W_regD hT ftL_nil (by kernel_rfl) 14 [] [(0, false), (3, false), (4, false), (11, false), (24, false)] [] [0, 3, 4] [0, 3] (s' := ⟨[(0, .c (.wh 0)), (3, .c (.wh 1)), (4, .c (.s (.k .i64 i4_2)))], [], [⟨(.ro false), 89, 1, l0.length, .w l0⟩, ⟨.row, 3, 1, (z3_2 ++ [((((l0.getD i4_2.toNat 0) % (65536 : UInt32)).toNat : Nat) : Int), ((((l0.getD i4_2.toNat 0) / (65536 : UInt32)).toNat : Nat) : Int)]).length, .z (z3_2 ++ [((((l0.getD i4_2.toNat 0) % (65536 : UInt32)).toNat : Nat) : Int), ((((l0.getD i4_2.toNat 0) / (65536 : UInt32)).toNat : Nat) : Int)])⟩]⟩) (by kernel_rfl) (by kernel_rfl) (allP_cons.2 ⟨g1, (allP_cons.2 ⟨g2, (allP_cons.2 ⟨g3, (allP_cons.2 ⟨g4, (allP_cons.2 ⟨g5, (allP_cons.2 ⟨g6, (allP_cons.2 ⟨g7, allP_nil⟩)⟩)⟩)⟩)⟩)⟩)⟩) ?_
        obtain ⟨g8, h⟩ := gd_some h
        refine W_reg hT ftL_nil [] [] [0, 3, 4] [0, 1] (s' := (rOf_l1_E l0 (z3_2 ++ [((((l0.getD i4_2.toNat 0) % (65536 : UInt32)).toNat : Nat) : Int), ((((l0.getD i4_2.toNat 0) / (65536 : UInt32)).toNat : Nat) : Int)]) (i4_2 + 1))) (by kernel_rfl) (allP_cons.2 ⟨g8, allP_nil⟩) ?_
        exact rOf_l1_M h
      · replace h := bif_f h g10
        refine W_co [] [3] [1] (s' := ⟨[(3, .c (.wh 0))], [], [⟨.row, 3, 1, z3_2.length, .z z3_2⟩]⟩) (by kernel_rfl) (W_exit ?_)
        refine W_seq ?_
        obtain ⟨r27_2, g9, h⟩ := bind_some' h
        refine W_reg hT (ftL_cons (k := 1) (f := 71) (F := (rtrim_ct n r27_2)) (rtrim_ok n r27_2) (fun _ _ => True.intro) ftL_nil) [] [] [2] [0] (s' := ⟨[(2, .c (.sl 0 0 r27_2.2))], [], [⟨.row, 3, 1, z3_2.length, .z z3_2⟩]⟩) (by kernel_rfl) (allP_cons.2 ⟨g9, allP_nil⟩) ?_
        refine W_co [.vw 2 true] [2] [1] (s' := (rOf_R (((z3_2.drop 0).take r27_2.2), r27_2.2))) (by kernel_rfl) (W_ret ?_)
        exact ⟨.inl rfl, by cases h; rfl⟩
  · rintro e s' ⟨he, rfl⟩
    refine ⟨he, fun a' w' hr => ?_⟩
    exact retS_ok tabO_pb hr (rs := [.tmp 2]) rfl (objs := [0]) (by kernel_rfl)
def rMay_R (r : Bool) : S := ⟨[(2, .c (.s (.b r)))], [], []⟩
def rMay_ct (n : Nat) (r : Bool) : Ct := fun args H => match args with
  | [x0] => (match aW H x0 with | some l0 => some ([rMay n l0 = some r], shA H.length (.c (.s (.b r))), shH H.length []) | none => none)
  | _ => none
theorem rMay_ok (n : Nat) (r : Bool) : FnOk Try.prog Tr 39 (rMay_ct n r) := by
  refine ⟨fun args H g av objs hF hg ρ w vals hG hp ha => ?_, _, Try.func39, by kernel_rfl, by kernel_rfl⟩
  obtain ⟨x0, rfl⟩ : ∃ x0, args = [x0] := by
    unfold rMay_ct at hF; split at hF
    · exact ⟨_, rfl⟩
    · cases hF
  cases e0 : aW H x0 with
  | none => simp only [rMay_ct, e0, reduceCtorEq] at hF
  | some l0 =>
  simp only [rMay_ct, e0, Option.some.injEq, Prod.mk.injEq] at hF
  obtain ⟨rfl, rfl, rfl⟩ := hF
  obtain ⟨v0, vals, rfl, k0, ha⟩ := F2.inv ha
  obtain rfl := F2.inv0 ha
  have hI : ∀ w', Kp (noB (fun _ => undef)) w w' → Tr w' := fun _ hk => Tr.keep hk.below hG
  have h : rMay n l0 = some r := hg
  obtain ⟨p0, s0, o0⟩ := aW_ok hp e0 (k0) 89
  have hR0 := rel0 (gv := (fun _ => undef)) (n := 7) (w := w) (args := [.c (.wh 0)]) (H := [⟨.ro false, 89, 1, l0.length, .w l0⟩]) (gl := []) (hpL (ps := [p0]) (F2.cons o0 F2.nil)) (allRo_ok rfl) (F2.cons s0 F2.nil) GlR.nil (by simp)
  clear ha hp hg k0 e0
  refine calls_W Try.func39 rfl rfl hR0 (Q := fun e s => (e = .ret ∨ e = .normal) ∧ s = rMay_R r) ?_ ?_
  · clear hR0
    unfold rMay at h
    have hT := tabO_pb
    refine W_seq ?_
    refine W_reg hT ftL_nil [] [] [0] [0] (s' := ⟨[(0, .c (.wh 0))], [], [⟨(.ro false), 89, 1, l0.length, .w l0⟩]⟩) (by kernel_rfl) allP_nil ?_
    refine W_seq ?_
    obtain ⟨r4, g1, h⟩ := bind_some' h
    refine W_reg hT (ftL_cons (k := 1) (f := 47) (F := (rOf_ct n r4)) (rOf_ok n r4) (fun _ _ => True.intro) ftL_nil) [] [] [2] [] (s' := ⟨[(2, .c (.s (.b (decide (((r4.2 : Nat) : Int) ≤ (128 : Int))))))], [], []⟩) (by kernel_rfl) (allP_cons.2 ⟨g1, allP_nil⟩) ?_
    refine W_co [] [2] [] (s' := (rMay_R (decide (((r4.2 : Nat) : Int) ≤ (128 : Int))))) (by kernel_rfl) (W_ret ?_)
    exact ⟨.inl rfl, by cases h; rfl⟩
  · rintro e s' ⟨he, rfl⟩
    refine ⟨he, fun a' w' hr => ?_⟩
    exact retS_ok tabO_pb hr (rs := [.tmp 2]) rfl (objs := []) (by kernel_rfl)
def rSize_j1_E (i3_2 : Int) : S := ⟨[(3, .c (.s (.k .i64 i3_2)))], [], []⟩
def rSize_j1_P (n : Nat) (r : Int) : S → Prop := fun s => ∃ (i3_2 : Int), s = rSize_j1_E i3_2 ∧ rSize_j1 n i3_2 = some r
theorem rSize_j1_M {n : Nat} {i3_2 : Int} {r : Int} (h : rSize_j1 n i3_2 = some r) : rSize_j1_P n r (rSize_j1_E i3_2) := ⟨i3_2, rfl, h⟩
def rSize_R (r : Int) : S := ⟨[(2, .c (.s (.k .i64 r)))], [], []⟩
def rSize_ct (n : Nat) (r : Int) : Ct := fun args H => match args with
  | [x0] => (match aZ H x0 with | some l0 => some ([rSize n l0 = some r], shA H.length (.c (.s (.k .i64 r))), shH H.length []) | none => none)
  | _ => none
theorem rSize_ok (n : Nat) (r : Int) : FnOk Try.prog Tr 43 (rSize_ct n r) := by
  refine ⟨fun args H g av objs hF hg ρ w vals hG hp ha => ?_, _, Try.func43, by kernel_rfl, by kernel_rfl⟩
  obtain ⟨x0, rfl⟩ : ∃ x0, args = [x0] := by
    unfold rSize_ct at hF; split at hF
    · exact ⟨_, rfl⟩
    · cases hF
  cases e0 : aZ H x0 with
  | none => simp only [rSize_ct, e0, reduceCtorEq] at hF
  | some l0 =>
  simp only [rSize_ct, e0, Option.some.injEq, Prod.mk.injEq] at hF
  obtain ⟨rfl, rfl, rfl⟩ := hF
  obtain ⟨v0, vals, rfl, k0, ha⟩ := F2.inv ha
  obtain rfl := F2.inv0 ha
  have hI : ∀ w', Kp (noB (fun _ => undef)) w w' → Tr w' := fun _ hk => Tr.keep hk.below hG
  have h : rSize n l0 = some r := hg
  obtain ⟨p0, s0, o0⟩ := aZ_ok hp e0 (k0) 3
  have hR0 := rel0 (gv := (fun _ => undef)) (n := 21) (w := w) (args := [.c (.wh 0)]) (H := [⟨.ro false, 3, 1, l0.length, .z l0⟩]) (gl := []) (hpL (ps := [p0]) (F2.cons o0 F2.nil)) (allRo_ok rfl) (F2.cons s0 F2.nil) GlR.nil (by simp)
  clear ha hp hg k0 e0
  refine calls_W Try.func43 rfl rfl hR0 (Q := fun e s => (e = .ret ∨ e = .normal) ∧ s = rSize_R r) ?_ ?_
  · clear hR0
    unfold rSize at h
    have hT := tabO_pb
    refine W_seq ?_
    refine W_reg hT ftL_nil [] [] [0] [0] (s' := ⟨[(0, .c (.wh 0))], [], [⟨(.ro false), 3, 1, l0.length, .z l0⟩]⟩) (by kernel_rfl) allP_nil ?_
    refine W_seq ?_
    obtain ⟨g1, h⟩ := gd_some h
    refine W_reg hT ftL_nil [] [] [0, 3] [0] (s' := ⟨[(0, .c (.wh 0)), (3, .c (.s (.k .i64 (2 * ((l0.length : Nat) : Int)))))], [], [⟨(.ro false), 3, 1, l0.length, .z l0⟩]⟩) (by kernel_rfl) (allP_cons.2 ⟨g1, allP_nil⟩) ?_
    refine W_join (rSize_j1_P n r) ?_ ?_
    · rintro _ ⟨i3_2, rfl, h⟩
      unfold rSize_j1 at h
      refine W_seq ?_
      refine W_reg hT ftL_nil [] [] [2] [] (s' := ⟨[(2, .c (.s (.k .i64 i3_2)))], [], []⟩) (by kernel_rfl) allP_nil ?_
      refine W_co [] [2] [] (s' := (rSize_R i3_2)) (by kernel_rfl) (W_ret ?_)
      exact ⟨.inl rfl, by cases h; rfl⟩
    · refine W_seq ?_
      rcases Bool.eq_false_or_eq_true (decide ((0 : Int) < (2 * ((l0.length : Nat) : Int)))) with g2 | g2
      · replace h := bif_t h g2
        obtain ⟨g3, h⟩ := gd_some h
        obtain ⟨g4, h⟩ := gd_some h
        obtain ⟨g5, h⟩ := gd_some h
        refine W_reg hT ftL_nil [(2, true)] [] [3, 17] [] (s' := ⟨[(3, .c (.s (.k .i64 (2 * ((l0.length : Nat) : Int))))), (17, .c (.s (.b (decide ((l0.getD ((((l0.length : Nat) : Int) - 1).toNat) 0) < (256 : Int))))))], [], []⟩) (by kernel_rfl) (allP_cons.2 ⟨g2, (allP_cons.2 ⟨g3, (allP_cons.2 ⟨g4, (allP_cons.2 ⟨g5, allP_nil⟩)⟩)⟩)⟩) ?_
        refine W_cond (b := (decide ((l0.getD ((((l0.length : Nat) : Int) - 1).toNat) 0) < (256 : Int)))) (by kernel_rfl) (fun g7 => ?_) (fun g7 => ?_)
        · replace h := bif_t h g7
          obtain ⟨g6, h⟩ := gd_some h
          refine W_reg hT ftL_nil [] [] [3] [] (s' := (rSize_j1_E ((2 * ((l0.length : Nat) : Int)) - 1))) (by kernel_rfl) (allP_cons.2 ⟨g6, allP_nil⟩) ?_
          exact rSize_j1_M h
        · replace h := bif_f h g7
          refine W_co [] [3] [] (s' := (rSize_j1_E (2 * ((l0.length : Nat) : Int)))) (by kernel_rfl) (W_skip ?_)
          exact rSize_j1_M h
      · replace h := bif_f h g2
        refine W_reg hT ftL_nil [(2, false)] [] [3, 17] [] (s' := ⟨[(3, .c (.s (.k .i64 (2 * ((l0.length : Nat) : Int))))), (17, .c (.s (.b false)))], [], []⟩) (by kernel_rfl) (allP_cons.2 ⟨g2, allP_nil⟩) ?_
        refine W_cond (b := false) (by kernel_rfl) (fun hb => by cases hb) (fun _ => ?_)
        refine W_co [] [3] [] (s' := (rSize_j1_E (2 * ((l0.length : Nat) : Int)))) (by kernel_rfl) (W_skip ?_)
        exact rSize_j1_M h
  · rintro e s' ⟨he, rfl⟩
    refine ⟨he, fun a' w' hr => ?_⟩
    exact retS_ok tabO_pb hr (rs := [.tmp 2]) rfl (objs := []) (by kernel_rfl)
def rWrite_j1_E (a0 : List Int) (a1 : Int) (l6_1 : List UInt8) (i7_1 : Int) (i8_5 : Int) : S := ⟨[(0, .c (.wh 0)), (1, .c (.s (.k .i64 a1))), (6, .c (.wh 1)), (7, .c (.s (.k .i64 i7_1))), (8, .c (.s (.k .i64 i8_5)))], [], [⟨(.ro false), 3, 1, a0.length, .z a0⟩, ⟨.row, 5, 1, a1.toNat, .b l6_1⟩]⟩
def rWrite_j1_P (n : Nat) (a0 : List Int) (a1 : Int) (l6_1 : List UInt8) (i7_1 : Int) (k_l1 : (List UInt8) → Int → Option (List UInt8 × Nat × Bool)) (r : List UInt8 × Nat × Bool) : S → Prop := fun s => ∃ (i8_5 : Int), s = rWrite_j1_E a0 a1 l6_1 i7_1 i8_5 ∧ rWrite_j1 n a0 a1 l6_1 i7_1 k_l1 i8_5 = some r
theorem rWrite_j1_M {n : Nat} {a0 : List Int} {a1 : Int} {l6_1 : List UInt8} {i7_1 : Int} {k_l1 : (List UInt8) → Int → Option (List UInt8 × Nat × Bool)} {i8_5 : Int} {r : List UInt8 × Nat × Bool} (h : rWrite_j1 n a0 a1 l6_1 i7_1 k_l1 i8_5 = some r) : rWrite_j1_P n a0 a1 l6_1 i7_1 k_l1 r (rWrite_j1_E a0 a1 l6_1 i7_1 i8_5) := ⟨i8_5, rfl, h⟩
def rWrite_l1_E (a0 : List Int) (a1 : Int) (l6_1 : List UInt8) (i7_1 : Int) : S := ⟨[(0, .c (.wh 0)), (1, .c (.s (.k .i64 a1))), (6, .c (.wh 1)), (7, .c (.s (.k .i64 i7_1)))], [], [⟨(.ro false), 3, 1, a0.length, .z a0⟩, ⟨.row, 5, 1, a1.toNat, .b l6_1⟩]⟩
def rWrite_l1_P (n : Nat) (a0 : List Int) (a1 : Int) (r : List UInt8 × Nat × Bool) (fu : Nat) : S → Prop := fun s => ∃ (l6_1 : List UInt8), ∃ (i7_1 : Int), s = rWrite_l1_E a0 a1 l6_1 i7_1 ∧ rWrite_l1 n a0 a1 fu l6_1 i7_1 = some r
theorem rWrite_l1_M {n : Nat} {a0 : List Int} {a1 : Int} {l6_1 : List UInt8} {i7_1 : Int} {r : List UInt8 × Nat × Bool} {fu : Nat} (h : rWrite_l1 n a0 a1 fu l6_1 i7_1 = some r) : rWrite_l1_P n a0 a1 r fu (rWrite_l1_E a0 a1 l6_1 i7_1) := ⟨l6_1, i7_1, rfl, h⟩
def rWrite_R (r : List UInt8 × Nat × Bool) : S := ⟨[(4, .c (.wh 0)), (5, .c (.s (.b r.2.2)))], [], [⟨.row, 5, 1, r.2.1, .b r.1⟩]⟩
def rWrite_ct (n : Nat) (r : List UInt8 × Nat × Bool) : Ct := fun args H => match args with
  | [x0, x1] => (match aZ H x0 with | some l0 => (match aI x1 with | some l1 => some ([rWrite n l0 l1 = some r], shA H.length (.t [.c (.wh 0), .c (.s (.b r.2.2))]), shH H.length [⟨.row, 5, 1, r.2.1, .b r.1⟩]) | none => none) | none => none)
  | _ => none
theorem rWrite_ok (n : Nat) (r : List UInt8 × Nat × Bool) : FnOk Try.prog Tr 69 (rWrite_ct n r) := by
  refine ⟨fun args H g av objs hF hg ρ w vals hG hp ha => ?_, _, Try.func69, by kernel_rfl, by kernel_rfl⟩
  obtain ⟨x0, x1, rfl⟩ : ∃ x0 x1, args = [x0, x1] := by
    unfold rWrite_ct at hF; split at hF
    · exact ⟨_, _, rfl⟩
    · cases hF
  cases e0 : aZ H x0 with
  | none => simp only [rWrite_ct, e0, reduceCtorEq] at hF
  | some l0 =>
  cases e1 : aI x1 with
  | none => simp only [rWrite_ct, e0, e1, reduceCtorEq] at hF
  | some l1 =>
  simp only [rWrite_ct, e0, e1, Option.some.injEq, Prod.mk.injEq] at hF
  obtain ⟨rfl, rfl, rfl⟩ := hF
  obtain ⟨v0, vals, rfl, k0, ha⟩ := F2.inv ha
  obtain ⟨v1, vals, rfl, k1, ha⟩ := F2.inv ha
  obtain rfl := F2.inv0 ha
  have hI : ∀ w', Kp (noB (fun _ => undef)) w w' → Tr w' := fun _ hk => Tr.keep hk.below hG
  have h : rWrite n l0 l1 = some r := hg
  obtain ⟨p0, s0, o0⟩ := aZ_ok hp e0 (k0) 3
  have s1 := aI_ok e1 (k1)
  have hR0 := rel0 (gv := (fun _ => undef)) (n := 51) (w := w) (args := [.c (.wh 0), .c (.s (.k .i64 l1))]) (H := [⟨.ro false, 3, 1, l0.length, .z l0⟩]) (gl := []) (hpL (ps := [p0]) (F2.cons o0 F2.nil)) (allRo_ok rfl) (F2.cons s0 (F2.cons s1 F2.nil)) GlR.nil (by simp)
  clear ha hp hg k0 k1 e0 e1
  refine calls_W Try.func69 rfl rfl hR0 (Q := fun e s => (e = .ret ∨ e = .normal) ∧ s = rWrite_R r) ?_ ?_
  · clear hR0
    unfold rWrite at h
    have hT := tabO_pb
    refine W_seq ?_
    refine W_reg hT ftL_nil [] [] [0, 1] [0] (s' := ⟨[(0, .c (.wh 0)), (1, .c (.s (.k .i64 l1)))], [], [⟨(.ro false), 3, 1, l0.length, .z l0⟩]⟩) (by kernel_rfl) allP_nil ?_
    refine W_seq ?_
    refine W_seq ?_
    rcases Bool.eq_false_or_eq_true (decide (l1 < (0 : Int))) with g1 | g1
    · replace h := bif_t h g1
      refine W_reg hT ftL_nil [(2, true)] [] [0, 1, 16] [0] (s' := ⟨[(0, .c (.wh 0)), (1, .c (.s (.k .i64 l1))), (16, .c (.s (.b true)))], [], [⟨(.ro false), 3, 1, l0.length, .z l0⟩]⟩) (by kernel_rfl) (allP_cons.2 ⟨g1, allP_nil⟩) ?_
      refine W_cond (b := true) (by kernel_rfl) (fun _ => ?_) (fun hb => by cases hb)
      refine W_seq ?_
      refine W_reg hT ftL_nil [] [] [4, 5] [] (s' := ⟨[(4, .c (.nils)), (5, .c (.s (.b false)))], [], []⟩) (by kernel_rfl) allP_nil ?_
      refine W_co [.nil 4 5 1 (.b [])] [4, 5] [0] (s' := (rWrite_R ([], 0, false))) (by kernel_rfl) (W_ret ?_)
      exact ⟨.inl rfl, by cases h; rfl⟩
    · replace h := bif_f h g1
      obtain ⟨r13, g2, h⟩ := bind_some' h
      refine W_reg hT (ftL_cons (k := 4) (f := 43) (F := (rSize_ct n r13)) (rSize_ok n r13) (fun _ _ => True.intro) ftL_nil) [(2, false)] [] [0, 1, 16] [0] (s' := ⟨[(0, .c (.wh 0)), (1, .c (.s (.k .i64 l1))), (16, .c (.s (.b (decide (l1 < r13)))))], [], [⟨(.ro false), 3, 1, l0.length, .z l0⟩]⟩) (by kernel_rfl) (allP_cons.2 ⟨g1, (allP_cons.2 ⟨g2, allP_nil⟩)⟩) ?_
      refine W_cond (b := (decide (l1 < r13))) (by kernel_rfl) (fun g24 => ?_) (fun g24 => ?_)
      · replace h := bif_t h g24
        refine W_seq ?_
        refine W_reg hT ftL_nil [] [] [4, 5] [] (s' := ⟨[(4, .c (.nils)), (5, .c (.s (.b false)))], [], []⟩) (by kernel_rfl) allP_nil ?_
        refine W_co [.nil 4 5 1 (.b [])] [4, 5] [0] (s' := (rWrite_R ([], 0, false))) (by kernel_rfl) (W_ret ?_)
        exact ⟨.inl rfl, by cases h; rfl⟩
      · replace h := bif_f h g24
        refine W_co [] [0, 1] [0] (s' := ⟨[(0, .c (.wh 0)), (1, .c (.s (.k .i64 l1)))], [], [⟨(.ro false), 3, 1, l0.length, .z l0⟩]⟩) (by kernel_rfl) (W_skip ?_)
        refine W_seq ?_
        obtain ⟨g3, h⟩ := gd_some h
        obtain ⟨g4, h⟩ := gd_some h
        obtain ⟨g5, h⟩ := gd_some h
        refine W_reg hT ftL_nil [] [] [0, 1, 6] [0, 1] (s' := ⟨[(0, .c (.wh 0)), (1, .c (.s (.k .i64 l1))), (6, .c (.wh 1))], [], [⟨(.ro false), 3, 1, l0.length, .z l0⟩, ⟨.row, 5, 1, l1.toNat, .b (List.replicate l1.toNat 0)⟩]⟩) (by kernel_rfl) (allP_cons.2 ⟨g3, (allP_cons.2 ⟨g4, (allP_cons.2 ⟨g5, allP_nil⟩)⟩)⟩) ?_
        refine W_seq ?_
        refine W_seq ?_
        refine W_reg hT ftL_nil [] [] [0, 1, 6, 7] [0, 1] (s' := ⟨[(0, .c (.wh 0)), (1, .c (.s (.k .i64 l1))), (6, .c (.wh 1)), (7, .c (.s (.k .i64 0)))], [], [⟨(.ro false), 3, 1, l0.length, .z l0⟩, ⟨.row, 5, 1, l1.toNat, .b (List.replicate l1.toNat 0)⟩]⟩) (by kernel_rfl) allP_nil ?_
        refine W_block ?_
        refine W_co [] [0, 1, 6, 7] [0, 1] (s' := (rWrite_l1_E l0 l1 (List.replicate l1.toNat 0) 0)) (by kernel_rfl) (W_lp ((rWrite_l1_P n l0 l1 r)) n (rWrite_l1_M h) ?_)
        rintro fu_l1 _ ⟨l6_1, i7_1, rfl, h⟩
        cases fu_l1 with
        | zero => cases h
        | succ fu_l1 =>
          refine ⟨fu_l1, rfl, ?_⟩
          rw [rWrite_l1] at h
          refine W_seq ?_
          refine W_seq ?_
          rcases Bool.eq_false_or_eq_true (decide (i7_1 < l1)) with g6 | g6
          · replace h := bif_t h g6
            obtain ⟨g7, h⟩ := gd_some h
            obtain ⟨g8, h⟩ := gd_some h
            refine W_reg hT ftL_nil [(3, true)] [] [0, 1, 6, 7, 28] [0, 1] (s' := ⟨[(0, .c (.wh 0)), (1, .c (.s (.k .i64 l1))), (6, .c (.wh 1)), (7, .c (.s (.k .i64 i7_1))), (28, .c (.s (.b (decide ((Int.tdiv i7_1 2) < ((l0.length : Nat) : Int))))))], [], [⟨(.ro false), 3, 1, l0.length, .z l0⟩, ⟨.row, 5, 1, l1.toNat, .b l6_1⟩]⟩) (by kernel_rfl) (allP_cons.2 ⟨g6, (allP_cons.2 ⟨g7, (allP_cons.2 ⟨g8, allP_nil⟩)⟩)⟩) ?_
            refine W_cond (b := (decide ((Int.tdiv i7_1 2) < ((l0.length : Nat) : Int)))) (by kernel_rfl) (fun g23 => ?_) (fun g23 => ?_)
            · replace h := bif_t h g23
              refine W_co [] [0, 1, 6, 7] [0, 1] (s' := ⟨[(0, .c (.wh 0)), (1, .c (.s (.k .i64 l1))), (6, .c (.wh 1)), (7, .c (.s (.k .i64 i7_1)))], [], [⟨(.ro false), 3, 1, l0.length, .z l0⟩, ⟨.row, 5, 1, l1.toNat, .b l6_1⟩]⟩) (by kernel_rfl) (W_skip ?_)
              refine W_seq ?_
              refine W_block ?_
              refine W_seq ?_
              obtain ⟨g9, h⟩ := gd_some h
              obtain ⟨g10, h⟩ := gd_some h
              obtain ⟨g11, h⟩ := gd_some h
              obtain ⟨g12, h⟩ := gd_some h
              refine W_reg hT ftL_nil [] [] [0, 1, 6, 7, 8] [0, 1] (s' := ⟨[(0, .c (.wh 0)), (1, .c (.s (.k .i64 l1))), (6, .c (.wh 1)), (7, .c (.s (.k .i64 i7_1))), (8, .c (.s (.k .i64 (l0.getD ((Int.tdiv i7_1 2).toNat) 0))))], [], [⟨(.ro false), 3, 1, l0.length, .z l0⟩, ⟨.row, 5, 1, l1.toNat, .b l6_1⟩]⟩) (by kernel_rfl) (allP_cons.2 ⟨g9, (allP_cons.2 ⟨g10, (allP_cons.2 ⟨g11, (allP_cons.2 ⟨g12, allP_nil⟩)⟩)⟩)⟩) ?_
              refine W_join (rWrite_j1_P n l0 l1 l6_1 i7_1 (rWrite_l1 n l0 l1 fu_l1) r) ?_ ?_
              · rintro _ ⟨i8_5, rfl, h⟩
                unfold rWrite_j1 at h
                obtain ⟨g13, h⟩ := gd_some h
                obtain ⟨g14, h⟩ := gd_some h
                obtain ⟨g15, h⟩ := gd_some h
                obtain ⟨g16, h⟩ := gd_some h
                obtain ⟨g17, h⟩ := gd_some h
                refine W_reg hT ftL_nil [] [] [0, 1, 6, 7] [0, 1] (s' := ⟨[(0, .c (.wh 0)), (1, .c (.s (.k .i64 l1))), (6, .c (.wh 1)), (7, .c (.s (.k .i64 i7_1)))], [], [⟨(.ro false), 3, 1, l0.length, .z l0⟩, ⟨.row, 5, 1, l1.toNat, .b (l6_1.set (((l1 - 1) - i7_1).toNat) (UInt8.ofInt (Int.tmod i8_5 256)))⟩]⟩) (by kernel_rfl) (allP_cons.2 ⟨g13, (allP_cons.2 ⟨g14, (allP_cons.2 ⟨g15, (allP_cons.2 ⟨g16, (allP_cons.2 ⟨g17, allP_nil⟩)⟩)⟩)⟩)⟩) ?_
                obtain ⟨g18, h⟩ := gd_some h
                refine W_reg hT ftL_nil [] [] [0, 1, 6, 7] [0, 1] (s' := (rWrite_l1_E l0 l1 (l6_1.set (((l1 - 1) - i7_1).toNat) (UInt8.ofInt (Int.tmod i8_5 256))) (i7_1 + 1))) (by kernel_rfl) (allP_cons.2 ⟨g18, allP_nil⟩) ?_
                exact rWrite_l1_M h
              · refine W_seq ?_
                obtain ⟨g19, h⟩ := gd_some h
                refine W_reg hT ftL_nil [] [] [0, 1, 6, 7, 8, 38] [0, 1] (s' := ⟨[(0, .c (.wh 0)), (1, .c (.s (.k .i64 l1))), (6, .c (.wh 1)), (7, .c (.s (.k .i64 i7_1))), (8, .c (.s (.k .i64 (l0.getD ((Int.tdiv i7_1 2).toNat) 0)))), (38, .c (.s (.b ((Int.tmod i7_1 2) == 1))))], [], [⟨(.ro false), 3, 1, l0.length, .z l0⟩, ⟨.row, 5, 1, l1.toNat, .b l6_1⟩]⟩) (by kernel_rfl) (allP_cons.2 ⟨g19, allP_nil⟩) ?_
                refine W_cond (b := ((Int.tmod i7_1 2) == 1)) (by kernel_rfl) (fun g22 => ?_) (fun g22 => ?_)
                · replace h := bif_t h g22
                  obtain ⟨g20, h⟩ := gd_some h
                  obtain ⟨g21, h⟩ := gd_some h
                  refine W_reg hT ftL_nil [] [] [0, 1, 6, 7, 8] [0, 1] (s' := (rWrite_j1_E l0 l1 l6_1 i7_1 (Int.tdiv (l0.getD ((Int.tdiv i7_1 2).toNat) 0) 256))) (by kernel_rfl) (allP_cons.2 ⟨g20, (allP_cons.2 ⟨g21, allP_nil⟩)⟩) ?_
                  exact rWrite_j1_M h
                · replace h := bif_f h g22
                  refine W_co [] [0, 1, 6, 7, 8] [0, 1] (s' := (rWrite_j1_E l0 l1 l6_1 i7_1 (l0.getD ((Int.tdiv i7_1 2).toNat) 0))) (by kernel_rfl) (W_skip ?_)
                  exact rWrite_j1_M h
            · replace h := bif_f h g23
              refine W_co [] [6] [1] (s' := ⟨[(6, .c (.wh 0))], [], [⟨.row, 5, 1, l1.toNat, .b l6_1⟩]⟩) (by kernel_rfl) (W_exit ?_)
              refine W_seq ?_
              refine W_reg hT ftL_nil [] [] [4, 5] [0] (s' := ⟨[(4, .c (.wh 0)), (5, .c (.s (.b true)))], [], [⟨.row, 5, 1, l1.toNat, .b l6_1⟩]⟩) (by kernel_rfl) allP_nil ?_
              refine W_co [] [4, 5] [0] (s' := (rWrite_R (l6_1, l1.toNat, true))) (by kernel_rfl) (W_ret ?_)
              exact ⟨.inl rfl, by cases h; rfl⟩
          · replace h := bif_f h g6
            refine W_reg hT ftL_nil [(3, false)] [] [0, 1, 6, 7, 28] [0, 1] (s' := ⟨[(0, .c (.wh 0)), (1, .c (.s (.k .i64 l1))), (6, .c (.wh 1)), (7, .c (.s (.k .i64 i7_1))), (28, .c (.s (.b false)))], [], [⟨(.ro false), 3, 1, l0.length, .z l0⟩, ⟨.row, 5, 1, l1.toNat, .b l6_1⟩]⟩) (by kernel_rfl) (allP_cons.2 ⟨g6, allP_nil⟩) ?_
            refine W_cond (b := false) (by kernel_rfl) (fun hb => by cases hb) (fun _ => ?_)
            refine W_co [] [6] [1] (s' := ⟨[(6, .c (.wh 0))], [], [⟨.row, 5, 1, l1.toNat, .b l6_1⟩]⟩) (by kernel_rfl) (W_exit ?_)
            refine W_seq ?_
            refine W_reg hT ftL_nil [] [] [4, 5] [0] (s' := ⟨[(4, .c (.wh 0)), (5, .c (.s (.b true)))], [], [⟨.row, 5, 1, l1.toNat, .b l6_1⟩]⟩) (by kernel_rfl) allP_nil ?_
            refine W_co [] [4, 5] [0] (s' := (rWrite_R (l6_1, l1.toNat, true))) (by kernel_rfl) (W_ret ?_)
            exact ⟨.inl rfl, by cases h; rfl⟩
  · rintro e s' ⟨he, rfl⟩
    refine ⟨he, fun a' w' hr => ?_⟩
    exact retS_ok tabO_pb hr (rs := [.tmp 4, .tmp 5]) rfl (objs := [0]) (by kernel_rfl)
def rBig_R (r : List UInt8 × Nat) : S := ⟨[(2, .c (.wh 0))], [], [⟨.row, 5, 1, r.2, .b r.1⟩]⟩
def rBig_ct (n : Nat) (r : List UInt8 × Nat) : Ct := fun args H => match args with
  | [x0] => (match aW H x0 with | some l0 => some ([rBig n l0 = some r], shA H.length (.c (.wh 0)), shH H.length [⟨.row, 5, 1, r.2, .b r.1⟩]) | none => none)
  | _ => none
theorem rBig_ok (n : Nat) (r : List UInt8 × Nat) : FnOk Try.prog Tr 40 (rBig_ct n r) := by
  refine ⟨fun args H g av objs hF hg ρ w vals hG hp ha => ?_, _, Try.func40, by kernel_rfl, by kernel_rfl⟩
  obtain ⟨x0, rfl⟩ : ∃ x0, args = [x0] := by
    unfold rBig_ct at hF; split at hF
    · exact ⟨_, rfl⟩
    · cases hF
  cases e0 : aW H x0 with
  | none => simp only [rBig_ct, e0, reduceCtorEq] at hF
  | some l0 =>
  simp only [rBig_ct, e0, Option.some.injEq, Prod.mk.injEq] at hF
  obtain ⟨rfl, rfl, rfl⟩ := hF
  obtain ⟨v0, vals, rfl, k0, ha⟩ := F2.inv ha
  obtain rfl := F2.inv0 ha
  have hI : ∀ w', Kp (noB (fun _ => undef)) w w' → Tr w' := fun _ hk => Tr.keep hk.below hG
  have h : rBig n l0 = some r := hg
  obtain ⟨p0, s0, o0⟩ := aW_ok hp e0 (k0) 89
  have hR0 := rel0 (gv := (fun _ => undef)) (n := 28) (w := w) (args := [.c (.wh 0)]) (H := [⟨.ro false, 89, 1, l0.length, .w l0⟩]) (gl := []) (hpL (ps := [p0]) (F2.cons o0 F2.nil)) (allRo_ok rfl) (F2.cons s0 F2.nil) GlR.nil (by simp)
  clear ha hp hg k0 e0
  refine calls_W Try.func40 rfl rfl hR0 (Q := fun e s => (e = .ret ∨ e = .normal) ∧ s = rBig_R r) ?_ ?_
  · clear hR0
    unfold rBig at h
    have hT := tabO_pb
    refine W_seq ?_
    refine W_reg hT ftL_nil [] [] [0] [0] (s' := ⟨[(0, .c (.wh 0))], [], [⟨(.ro false), 89, 1, l0.length, .w l0⟩]⟩) (by kernel_rfl) allP_nil ?_
    refine W_seq ?_
    obtain ⟨r7, g1, h⟩ := bind_some' h
    refine W_reg hT (ftL_cons (k := 1) (f := 47) (F := (rOf_ct n r7)) (rOf_ok n r7) (fun _ _ => True.intro) ftL_nil) [] [] [3] [1] (s' := ⟨[(3, .c (.wh 0))], [], [⟨(.ro true), 3, 1, r7.2, .z r7.1⟩]⟩) (by kernel_rfl) (allP_cons.2 ⟨g1, allP_nil⟩) ?_
    refine W_seq ?_
    obtain ⟨r11, g2, h⟩ := bind_some' h
    obtain ⟨r12, g3, h⟩ := bind_some' h
    refine W_reg hT (ftL_cons (k := 2) (f := 43) (F := (rSize_ct n r11)) (rSize_ok n r11) (fun _ _ => True.intro) (ftL_cons (k := 3) (f := 69) (F := (rWrite_ct n r12)) (rWrite_ok n r12) (fun _ _ => True.intro) ftL_nil)) [] [] [4] [1] (s' := ⟨[(4, .c (.wh 0))], [], [⟨.row, 5, 1, r12.2.1, .b r12.1⟩]⟩) (by kernel_rfl) (allP_cons.2 ⟨g2, (allP_cons.2 ⟨g3, allP_nil⟩)⟩) ?_
    refine W_seq ?_
    refine W_seq ?_
    rcases Bool.eq_false_or_eq_true (((r12.2.1 : Nat) : Int) == 0) with g4 | g4
    · replace h := bif_t h g4
      refine W_reg hT ftL_nil [(3, true)] [] [4, 23] [0] (s' := ⟨[(4, .c (.wh 0)), (23, .c (.s (.b true)))], [], [⟨.row, 5, 1, r12.2.1, .b r12.1⟩]⟩) (by kernel_rfl) (allP_cons.2 ⟨g4, allP_nil⟩) ?_
      refine W_cond (b := true) (by kernel_rfl) (fun _ => ?_) (fun hb => by cases hb)
      refine W_seq ?_
      obtain ⟨g5, h⟩ := gd_some h
      refine W_reg hT ftL_nil [] [] [2] [2] (s' := ⟨[(2, .c (.wh 0))], [], [⟨.row, 5, 1, ([0] ++ r12.1).length, .b ([0] ++ r12.1)⟩]⟩) (by kernel_rfl) (allP_cons.2 ⟨g5, allP_nil⟩) ?_
      refine W_co [] [2] [0] (s' := (rBig_R (([0] ++ r12.1), ([0] ++ r12.1).length))) (by kernel_rfl) (W_ret ?_)
      exact ⟨.inl rfl, by cases h; rfl⟩
    · replace h := bif_f h g4
      obtain ⟨g6, h⟩ := gd_some h
      obtain ⟨g7, h⟩ := gd_some h
      refine W_reg hT ftL_nil [(3, false)] [] [4, 23] [0] (s' := ⟨[(4, .c (.wh 0)), (23, .c (.s (.b (decide ((128 : UInt8) ≤ (r12.1.getD 0 0))))))], [], [⟨.row, 5, 1, r12.2.1, .b r12.1⟩]⟩) (by kernel_rfl) (allP_cons.2 ⟨g4, (allP_cons.2 ⟨g6, (allP_cons.2 ⟨g7, allP_nil⟩)⟩)⟩) ?_
      refine W_cond (b := (decide ((128 : UInt8) ≤ (r12.1.getD 0 0)))) (by kernel_rfl) (fun g9 => ?_) (fun g9 => ?_)
      · replace h := bif_t h g9
        refine W_seq ?_
        obtain ⟨g8, h⟩ := gd_some h
        refine W_reg hT ftL_nil [] [] [2] [2] (s' := ⟨[(2, .c (.wh 0))], [], [⟨.row, 5, 1, ([0] ++ r12.1).length, .b ([0] ++ r12.1)⟩]⟩) (by kernel_rfl) (allP_cons.2 ⟨g8, allP_nil⟩) ?_
        refine W_co [] [2] [0] (s' := (rBig_R (([0] ++ r12.1), ([0] ++ r12.1).length))) (by kernel_rfl) (W_ret ?_)
        exact ⟨.inl rfl, by cases h; rfl⟩
      · replace h := bif_f h g9
        refine W_co [] [4] [0] (s' := ⟨[(4, .c (.wh 0))], [], [⟨.row, 5, 1, r12.2.1, .b r12.1⟩]⟩) (by kernel_rfl) (W_skip ?_)
        refine W_seq ?_
        refine W_reg hT ftL_nil [] [] [2] [0] (s' := ⟨[(2, .c (.wh 0))], [], [⟨.row, 5, 1, r12.2.1, .b r12.1⟩]⟩) (by kernel_rfl) allP_nil ?_
        refine W_co [] [2] [0] (s' := (rBig_R (r12.1, r12.2.1))) (by kernel_rfl) (W_ret ?_)
        exact ⟨.inl rfl, by cases h; rfl⟩
  · rintro e s' ⟨he, rfl⟩
    refine ⟨he, fun a' w' hr => ?_⟩
    exact retS_ok tabO_pb hr (rs := [.tmp 2]) rfl (objs := [0]) (by kernel_rfl)
def pRead_l1_E (l0_4 : List UInt8) (m0_4 : Nat) (w4_1 : List UInt32) (i30_1 : Int) : S := ⟨[(0, .c (.wh 0)), (4, .c (.wh 1)), (28, .c (.wh 0)), (29, .c (.s (.k .i64 ((m0_4 : Nat) : Int)))), (30, .c (.s (.k .i64 i30_1)))], [], [⟨(.ro false), 5, 1, m0_4, .b l0_4⟩, ⟨.row, 89, 1, (Int.tdiv (((m0_4 : Nat) : Int) + 3) 4).toNat, .w w4_1⟩]⟩
def pRead_l1_P (n : Nat) (l0_4 : List UInt8) (m0_4 : Nat) (r : List UInt32 × Nat × Option Int) (fu : Nat) : S → Prop := fun s => ∃ (w4_1 : List UInt32), ∃ (i30_1 : Int), s = pRead_l1_E l0_4 m0_4 w4_1 i30_1 ∧ pRead_l1 n l0_4 m0_4 fu w4_1 i30_1 = some r
theorem pRead_l1_M {n : Nat} {l0_4 : List UInt8} {m0_4 : Nat} {w4_1 : List UInt32} {i30_1 : Int} {r : List UInt32 × Nat × Option Int} {fu : Nat} (h : pRead_l1 n l0_4 m0_4 fu w4_1 i30_1 = some r) : pRead_l1_P n l0_4 m0_4 r fu (pRead_l1_E l0_4 m0_4 w4_1 i30_1) := ⟨w4_1, i30_1, rfl, h⟩
def pRead_j1_E (l0_4 : List UInt8) (m0_4 : Nat) : S := ⟨[(0, .c (.wh 0))], [], [⟨(.ro false), 5, 1, m0_4, .b l0_4⟩]⟩
def pRead_j1_P (n : Nat) (r : List UInt32 × Nat × Option Int) : S → Prop := fun s => ∃ (l0_4 : List UInt8), ∃ (m0_4 : Nat), s = pRead_j1_E l0_4 m0_4 ∧ pRead_j1 n l0_4 m0_4 = some r
theorem pRead_j1_M {n : Nat} {l0_4 : List UInt8} {m0_4 : Nat} {r : List UInt32 × Nat × Option Int} (h : pRead_j1 n l0_4 m0_4 = some r) : pRead_j1_P n r (pRead_j1_E l0_4 m0_4) := ⟨l0_4, m0_4, rfl, h⟩
def pRead_l2_E (l0_5 : List UInt8) (m0_5 : Nat) : S := ⟨[(0, .c (.wh 0))], [], [⟨(.ro false), 5, 1, m0_5, .b l0_5⟩]⟩
def pRead_l2_P (n : Nat) (r : List UInt32 × Nat × Option Int) (fu : Nat) : S → Prop := fun s => ∃ (l0_5 : List UInt8), ∃ (m0_5 : Nat), s = pRead_l2_E l0_5 m0_5 ∧ pRead_l2 n fu l0_5 m0_5 = some r
theorem pRead_l2_M {n : Nat} {l0_5 : List UInt8} {m0_5 : Nat} {r : List UInt32 × Nat × Option Int} {fu : Nat} (h : pRead_l2 n fu l0_5 m0_5 = some r) : pRead_l2_P n r fu (pRead_l2_E l0_5 m0_5) := ⟨l0_5, m0_5, rfl, h⟩
def pRead_R (r : List UInt32 × Nat × Option Int) : S := ⟨[(2, .c (.wh 0)), (3, .c (.s (.er 31 .i64 r.2.2)))], [], [⟨.row, 89, 1, r.2.1, .w r.1⟩]⟩
def pRead_ct (n : Nat) (r : List UInt32 × Nat × Option Int) : Ct := fun args H => match args with
  | [x0] => (match aB H x0 with | some l0 => some ([pRead n l0 = some r], shA H.length (.t [.c (.wh 0), .c (.s (.er 31 .i64 r.2.2))]), shH H.length [⟨.row, 89, 1, r.2.1, .w r.1⟩]) | none => none)
  | _ => none
theorem pRead_ok (n : Nat) (r : List UInt32 × Nat × Option Int) : FnOk Try.prog Tr 70 (pRead_ct n r) := by
  refine ⟨fun args H g av objs hF hg ρ w vals hG hp ha => ?_, _, Try.func70, by kernel_rfl, by kernel_rfl⟩
  obtain ⟨x0, rfl⟩ : ∃ x0, args = [x0] := by
    unfold pRead_ct at hF; split at hF
    · exact ⟨_, rfl⟩
    · cases hF
  cases e0 : aB H x0 with
  | none => simp only [pRead_ct, e0, reduceCtorEq] at hF
  | some l0 =>
  simp only [pRead_ct, e0, Option.some.injEq, Prod.mk.injEq] at hF
  obtain ⟨rfl, rfl, rfl⟩ := hF
  obtain ⟨v0, vals, rfl, k0, ha⟩ := F2.inv ha
  obtain rfl := F2.inv0 ha
  have hI : ∀ w', Kp (noB (fun _ => undef)) w w' → Tr w' := fun _ hk => Tr.keep hk.below hG
  have h : pRead n l0 = some r := hg
  obtain ⟨p0, s0, o0⟩ := aB_ok hp e0 (k0) 5
  have hR0 := rel0 (gv := (fun _ => undef)) (n := 55) (w := w) (args := [.c (.wh 0)]) (H := [⟨.ro false, 5, 1, l0.length, .b l0⟩]) (gl := []) (hpL (ps := [p0]) (F2.cons o0 F2.nil)) (allRo_ok rfl) (F2.cons s0 F2.nil) GlR.nil (by simp)
  clear ha hp hg k0 e0
  refine calls_W Try.func70 rfl rfl hR0 (Q := fun e s => (e = .ret ∨ e = .normal) ∧ s = pRead_R r) ?_ ?_
  · clear hR0
    unfold pRead at h
    have hT := tabO_pb
    refine W_seq ?_
    refine W_reg hT ftL_nil [] [] [0] [0] (s' := ⟨[(0, .c (.wh 0))], [], [⟨(.ro false), 5, 1, l0.length, .b l0⟩]⟩) (by kernel_rfl) allP_nil ?_
    refine W_join (pRead_j1_P n r) ?_ ?_
    · rintro _ ⟨l0_4, m0_4, rfl, h⟩
      unfold pRead_j1 at h
      refine W_seq ?_
      refine W_seq ?_
      refine W_reg hT ftL_nil [] [] [0, 21] [0] (s' := ⟨[(0, .c (.wh 0)), (21, .c (.s (.b (decide ((256 : Int) < ((m0_4 : Nat) : Int))))))], [], [⟨(.ro false), 5, 1, m0_4, .b l0_4⟩]⟩) (by kernel_rfl) allP_nil ?_
      refine W_cond (b := (decide ((256 : Int) < ((m0_4 : Nat) : Int)))) (by kernel_rfl) (fun g22 => ?_) (fun g22 => ?_)
      · replace h := bif_t h g22
        refine W_seq ?_
        refine W_reg hT ftL_nil [] [] [2, 3] [] (s' := ⟨[(2, .c (.nils)), (3, .c (.s (.er 31 .i64 (some 4))))], [], []⟩) (by kernel_rfl) allP_nil ?_
        refine W_co [.nil 2 89 1 (.w [])] [2, 3] [0] (s' := (pRead_R ([], 0, (some 4)))) (by kernel_rfl) (W_ret ?_)
        exact ⟨.inl rfl, by cases h; rfl⟩
      · replace h := bif_f h g22
        refine W_co [] [0] [0] (s' := ⟨[(0, .c (.wh 0))], [], [⟨(.ro false), 5, 1, m0_4, .b l0_4⟩]⟩) (by kernel_rfl) (W_skip ?_)
        refine W_seq ?_
        obtain ⟨g1, h⟩ := gd_some h
        obtain ⟨g2, h⟩ := gd_some h
        obtain ⟨g3, h⟩ := gd_some h
        obtain ⟨g4, h⟩ := gd_some h
        obtain ⟨g5, h⟩ := gd_some h
        obtain ⟨g6, h⟩ := gd_some h
        refine W_reg hT ftL_nil [] [] [0, 4] [0, 1] (s' := ⟨[(0, .c (.wh 0)), (4, .c (.wh 1))], [], [⟨(.ro false), 5, 1, m0_4, .b l0_4⟩, ⟨.row, 89, 1, (Int.tdiv (((m0_4 : Nat) : Int) + 3) 4).toNat, .w (List.replicate ((Int.tdiv (((m0_4 : Nat) : Int) + 3) 4).toNat) 0)⟩]⟩) (by kernel_rfl) (allP_cons.2 ⟨g1, (allP_cons.2 ⟨g2, (allP_cons.2 ⟨g3, (allP_cons.2 ⟨g4, (allP_cons.2 ⟨g5, (allP_cons.2 ⟨g6, allP_nil⟩)⟩)⟩)⟩)⟩)⟩) ?_
        refine W_seq ?_
        refine W_seq ?_
        refine W_reg hT ftL_nil [] [] [0, 4, 28, 29, 30] [0, 1] (s' := ⟨[(0, .c (.wh 0)), (4, .c (.wh 1)), (28, .c (.wh 0)), (29, .c (.s (.k .i64 ((m0_4 : Nat) : Int)))), (30, .c (.s (.k .i64 0)))], [], [⟨(.ro false), 5, 1, m0_4, .b l0_4⟩, ⟨.row, 89, 1, (Int.tdiv (((m0_4 : Nat) : Int) + 3) 4).toNat, .w (List.replicate ((Int.tdiv (((m0_4 : Nat) : Int) + 3) 4).toNat) 0)⟩]⟩) (by kernel_rfl) allP_nil ?_
        refine W_block ?_
        refine W_co [] [0, 4, 28, 29, 30] [0, 1] (s' := (pRead_l1_E l0_4 m0_4 (List.replicate ((Int.tdiv (((m0_4 : Nat) : Int) + 3) 4).toNat) 0) 0)) (by kernel_rfl) (W_lp ((pRead_l1_P n l0_4 m0_4 r)) n (pRead_l1_M h) ?_)
        rintro fu_l1 _ ⟨w4_1, i30_1, rfl, h⟩
        cases fu_l1 with
        | zero => cases h
        | succ fu_l1 =>
          refine ⟨fu_l1, rfl, ?_⟩
          rw [pRead_l1] at h
          refine W_seq ?_
          refine W_reg hT ftL_nil [] [] [0, 4, 28, 29, 30, 31] [0, 1] (s' := ⟨[(0, .c (.wh 0)), (4, .c (.wh 1)), (28, .c (.wh 0)), (29, .c (.s (.k .i64 ((m0_4 : Nat) : Int)))), (30, .c (.s (.k .i64 i30_1))), (31, .c (.s (.b (decide (i30_1 < ((m0_4 : Nat) : Int))))))], [], [⟨(.ro false), 5, 1, m0_4, .b l0_4⟩, ⟨.row, 89, 1, (Int.tdiv (((m0_4 : Nat) : Int) + 3) 4).toNat, .w w4_1⟩]⟩) (by kernel_rfl) allP_nil ?_
          refine W_seq ?_
          refine W_cond (b := (decide (i30_1 < ((m0_4 : Nat) : Int)))) (by kernel_rfl) (fun g21 => ?_) (fun g21 => ?_)
          · replace h := bif_t h g21
            refine W_co [] [0, 4, 28, 29, 30] [0, 1] (s' := ⟨[(0, .c (.wh 0)), (4, .c (.wh 1)), (28, .c (.wh 0)), (29, .c (.s (.k .i64 ((m0_4 : Nat) : Int)))), (30, .c (.s (.k .i64 i30_1)))], [], [⟨(.ro false), 5, 1, m0_4, .b l0_4⟩, ⟨.row, 89, 1, (Int.tdiv (((m0_4 : Nat) : Int) + 3) 4).toNat, .w w4_1⟩]⟩) (by kernel_rfl) (W_skip ?_)
            refine W_seq ?_
            refine W_block ?_
            refine W_seq ?_
            obtain ⟨g7, h⟩ := gd_some h
            obtain ⟨g8, h⟩ := gd_some h
            refine W_reg hT ftL_nil [] [] [0, 4, 5, 6, 28, 29, 30] [0, 1] (s' := ⟨[(0, .c (.wh 0)), (4, .c (.wh 1)), (5, .c (.s (.k .i64 i30_1))), (6, .c (.s (.u8 (l0_4.getD i30_1.toNat 0)))), (28, .c (.wh 0)), (29, .c (.s (.k .i64 ((m0_4 : Nat) : Int)))), (30, .c (.s (.k .i64 i30_1)))], [], [⟨(.ro false), 5, 1, m0_4, .b l0_4⟩, ⟨.row, 89, 1, (Int.tdiv (((m0_4 : Nat) : Int) + 3) 4).toNat, .w w4_1⟩]⟩) (by kernel_rfl) (allP_cons.2 ⟨g7, (allP_cons.2 ⟨g8, allP_nil⟩)⟩) ?_
            refine W_seq ?_
            obtain ⟨g9, h⟩ := gd_some h
            obtain ⟨g10, h⟩ := gd_some h
            refine W_reg hT ftL_nil [] [] [0, 4, 6, 7, 28, 29, 30] [0, 1] (s' := ⟨[(0, .c (.wh 0)), (4, .c (.wh 1)), (6, .c (.s (.u8 (l0_4.getD i30_1.toNat 0)))), (7, .c (.s (.k .i64 ((((m0_4 : Nat) : Int) - 1) - i30_1)))), (28, .c (.wh 0)), (29, .c (.s (.k .i64 ((m0_4 : Nat) : Int)))), (30, .c (.s (.k .i64 i30_1)))], [], [⟨(.ro false), 5, 1, m0_4, .b l0_4⟩, ⟨.row, 89, 1, (Int.tdiv (((m0_4 : Nat) : Int) + 3) 4).toNat, .w w4_1⟩]⟩) (by kernel_rfl) (allP_cons.2 ⟨g9, (allP_cons.2 ⟨g10, allP_nil⟩)⟩) ?_
            obtain ⟨g11, h⟩ := gd_some h
            obtain ⟨g12, h⟩ := gd_some h
            obtain ⟨g13, h⟩ := gd_some h
            obtain ⟨g14, h⟩ := gd_some h
            obtain ⟨g15, h⟩ := gd_some h
            obtain ⟨g16, h⟩ := gd_some h
            obtain ⟨g17, h⟩ := gd_some h
            obtain ⟨g18, h⟩ := gd_some h
            obtain ⟨g19, h⟩ := gd_some h
            refine W_regD hT ftL_nil (by kernel_rfl) 11 [] [(0, false), (4, false), (28, false), (29, false), (30, false), (40, false), (42, false), (44, false), (50, false)] [] [0, 4, 28, 29, 30] [0, 1] (s' := ⟨[(0, .c (.wh 0)), (4, .c (.wh 1)), (28, .c (.wh 0)), (29, .c (.s (.k .i64 ((m0_4 : Nat) : Int)))), (30, .c (.s (.k .i64 i30_1)))], [], [⟨(.ro false), 5, 1, m0_4, .b l0_4⟩, ⟨.row, 89, 1, (Int.tdiv (((m0_4 : Nat) : Int) + 3) 4).toNat, .w (w4_1.set ((Int.tdiv ((((m0_4 : Nat) : Int) - 1) - i30_1) 4).toNat) ((w4_1.getD ((Int.tdiv ((((m0_4 : Nat) : Int) - 1) - i30_1) 4).toNat) 0) ||| (shl32 ((l0_4.getD i30_1.toNat 0).toUInt32) (8 * (Int.tmod ((((m0_4 : Nat) : Int) - 1) - i30_1) 4)))))⟩]⟩) (by kernel_rfl) (by kernel_rfl) (allP_cons.2 ⟨g11, (allP_cons.2 ⟨g12, (allP_cons.2 ⟨g13, (allP_cons.2 ⟨g14, (allP_cons.2 ⟨g15, (allP_cons.2 ⟨g16, (allP_cons.2 ⟨g17, (allP_cons.2 ⟨g18, (allP_cons.2 ⟨g19, allP_nil⟩)⟩)⟩)⟩)⟩)⟩)⟩)⟩)⟩) ?_
            obtain ⟨g20, h⟩ := gd_some h
            refine W_reg hT ftL_nil [] [] [0, 4, 28, 29, 30] [0, 1] (s' := (pRead_l1_E l0_4 m0_4 (w4_1.set ((Int.tdiv ((((m0_4 : Nat) : Int) - 1) - i30_1) 4).toNat) ((w4_1.getD ((Int.tdiv ((((m0_4 : Nat) : Int) - 1) - i30_1) 4).toNat) 0) ||| (shl32 ((l0_4.getD i30_1.toNat 0).toUInt32) (8 * (Int.tmod ((((m0_4 : Nat) : Int) - 1) - i30_1) 4))))) (i30_1 + 1))) (by kernel_rfl) (allP_cons.2 ⟨g20, allP_nil⟩) ?_
            exact pRead_l1_M h
          · replace h := bif_f h g21
            refine W_co [] [4] [1] (s' := ⟨[(4, .c (.wh 0))], [], [⟨.row, 89, 1, (Int.tdiv (((m0_4 : Nat) : Int) + 3) 4).toNat, .w w4_1⟩]⟩) (by kernel_rfl) (W_exit ?_)
            refine W_seq ?_
            refine W_reg hT ftL_nil [] [] [2, 3] [0] (s' := ⟨[(2, .c (.wh 0)), (3, .c (.s (.v .nilIface)))], [], [⟨.row, 89, 1, (Int.tdiv (((m0_4 : Nat) : Int) + 3) 4).toNat, .w w4_1⟩]⟩) (by kernel_rfl) allP_nil ?_
            refine W_co [.er 3 31 .i64] [2, 3] [0] (s' := (pRead_R (w4_1, (Int.tdiv (((m0_4 : Nat) : Int) + 3) 4).toNat, none))) (by kernel_rfl) (W_ret ?_)
            exact ⟨.inl rfl, by cases h; rfl⟩
    · refine W_block ?_
      refine W_co [] [0] [0] (s' := (pRead_l2_E l0 l0.length)) (by kernel_rfl) (W_lp ((pRead_l2_P n r)) n (pRead_l2_M h) ?_)
      rintro fu_l2 _ ⟨l0_5, m0_5, rfl, h⟩
      cases fu_l2 with
      | zero => cases h
      | succ fu_l2 =>
        refine ⟨fu_l2, rfl, ?_⟩
        rw [pRead_l2] at h
        refine W_seq ?_
        refine W_seq ?_
        rcases Bool.eq_false_or_eq_true (decide ((0 : Int) < ((m0_5 : Nat) : Int))) with g23 | g23
        · replace h := bif_t h g23
          obtain ⟨g24, h⟩ := gd_some h
          obtain ⟨g25, h⟩ := gd_some h
          refine W_reg hT ftL_nil [(3, true)] [] [0, 16] [0] (s' := ⟨[(0, .c (.wh 0)), (16, .c (.s (.b ((l0_5.getD 0 0) == 0))))], [], [⟨(.ro false), 5, 1, m0_5, .b l0_5⟩]⟩) (by kernel_rfl) (allP_cons.2 ⟨g23, (allP_cons.2 ⟨g24, (allP_cons.2 ⟨g25, allP_nil⟩)⟩)⟩) ?_
          refine W_cond (b := ((l0_5.getD 0 0) == 0)) (by kernel_rfl) (fun g28 => ?_) (fun g28 => ?_)
          · replace h := bif_t h g28
            refine W_co [] [0] [0] (s' := ⟨[(0, .c (.wh 0))], [], [⟨(.ro false), 5, 1, m0_5, .b l0_5⟩]⟩) (by kernel_rfl) (W_skip ?_)
            refine W_block ?_
            obtain ⟨g26, h⟩ := gd_some h
            obtain ⟨g27, h⟩ := gd_some h
            refine W_reg hT ftL_nil [] [.vw 0 false] [0] [1] (s' := (pRead_l2_E ((l0_5.drop 1).take (m0_5 - 1)) (m0_5 - 1))) (by kernel_rfl) (allP_cons.2 ⟨g26, (allP_cons.2 ⟨g27, allP_nil⟩)⟩) ?_
            exact pRead_l2_M h
          · replace h := bif_f h g28
            refine W_co [] [0] [0] (s' := (pRead_j1_E l0_5 m0_5)) (by kernel_rfl) (W_exit ?_)
            exact pRead_j1_M h
        · replace h := bif_f h g23
          refine W_reg hT ftL_nil [(3, false)] [] [0, 16] [0] (s' := ⟨[(0, .c (.wh 0)), (16, .c (.s (.b false)))], [], [⟨(.ro false), 5, 1, m0_5, .b l0_5⟩]⟩) (by kernel_rfl) (allP_cons.2 ⟨g23, allP_nil⟩) ?_
          refine W_cond (b := false) (by kernel_rfl) (fun hb => by cases hb) (fun _ => ?_)
          refine W_co [] [0] [0] (s' := (pRead_j1_E l0_5 m0_5)) (by kernel_rfl) (W_exit ?_)
          exact pRead_j1_M h
  · rintro e s' ⟨he, rfl⟩
    refine ⟨he, fun a' w' hr => ?_⟩
    exact retS_ok tabO_pb hr (rs := [.tmp 2, .tmp 3]) rfl (objs := [0]) (by kernel_rfl)
def pReadBig_R (r : List UInt32 × Nat × Option Int) : S := ⟨[(2, .c (.wh 0)), (3, .c (.s (.er 31 .i64 r.2.2)))], [], [⟨.row, 89, 1, r.2.1, .w r.1⟩]⟩
def pReadBig_ct (n : Nat) (r : List UInt32 × Nat × Option Int) : Ct := fun args H => match args with
  | [x0] => (match aB H x0 with | some l0 => some ([pReadBig n l0 = some r], shA H.length (.t [.c (.wh 0), .c (.s (.er 31 .i64 r.2.2))]), shH H.length [⟨.row, 89, 1, r.2.1, .w r.1⟩]) | none => none)
  | _ => none
theorem pReadBig_ok (n : Nat) (r : List UInt32 × Nat × Option Int) : FnOk Try.prog Tr 41 (pReadBig_ct n r) := by
  refine ⟨fun args H g av objs hF hg ρ w vals hG hp ha => ?_, _, Try.func41, by kernel_rfl, by kernel_rfl⟩
  obtain ⟨x0, rfl⟩ : ∃ x0, args = [x0] := by
    unfold pReadBig_ct at hF; split at hF
    · exact ⟨_, rfl⟩
    · cases hF
  cases e0 : aB H x0 with
  | none => simp only [pReadBig_ct, e0, reduceCtorEq] at hF
  | some l0 =>
  simp only [pReadBig_ct, e0, Option.some.injEq, Prod.mk.injEq] at hF
  obtain ⟨rfl, rfl, rfl⟩ := hF
  obtain ⟨v0, vals, rfl, k0, ha⟩ := F2.inv ha
  obtain rfl := F2.inv0 ha
  have hI : ∀ w', Kp (noB (fun _ => undef)) w w' → Tr w' := fun _ hk => Tr.keep hk.below hG
  have h : pReadBig n l0 = some r := hg
  obtain ⟨p0, s0, o0⟩ := aB_ok hp e0 (k0) 5
  have hR0 := rel0 (gv := (fun _ => undef)) (n := 27) (w := w) (args := [.c (.wh 0)]) (H := [⟨.ro false, 5, 1, l0.length, .b l0⟩]) (gl := []) (hpL (ps := [p0]) (F2.cons o0 F2.nil)) (allRo_ok rfl) (F2.cons s0 F2.nil) GlR.nil (by simp)
  clear ha hp hg k0 e0
  refine calls_W Try.func41 rfl rfl hR0 (Q := fun e s => (e = .ret ∨ e = .normal) ∧ s = pReadBig_R r) ?_ ?_
  · clear hR0
    unfold pReadBig at h
    have hT := tabO_pb
    refine W_seq ?_
    refine W_reg hT ftL_nil [] [] [0] [0] (s' := ⟨[(0, .c (.wh 0))], [], [⟨(.ro false), 5, 1, l0.length, .b l0⟩]⟩) (by kernel_rfl) allP_nil ?_
    refine W_seq ?_
    refine W_seq ?_
    rcases Bool.eq_false_or_eq_true (((l0.length : Nat) : Int) == 0) with g1 | g1
    · replace h := bif_t h g1
      refine W_reg hT ftL_nil [(3, true)] [] [0, 21] [0] (s' := ⟨[(0, .c (.wh 0)), (21, .c (.s (.b true)))], [], [⟨(.ro false), 5, 1, l0.length, .b l0⟩]⟩) (by kernel_rfl) (allP_cons.2 ⟨g1, allP_nil⟩) ?_
      refine W_cond (b := true) (by kernel_rfl) (fun _ => ?_) (fun hb => by cases hb)
      refine W_seq ?_
      refine W_reg hT ftL_nil [] [] [2, 3] [] (s' := ⟨[(2, .c (.nils)), (3, .c (.s (.er 31 .i64 (some 2))))], [], []⟩) (by kernel_rfl) allP_nil ?_
      refine W_co [.nil 2 89 1 (.w [])] [2, 3] [0] (s' := (pReadBig_R ([], 0, (some 2)))) (by kernel_rfl) (W_ret ?_)
      exact ⟨.inl rfl, by cases h; rfl⟩
    · replace h := bif_f h g1
      obtain ⟨g2, h⟩ := gd_some h
      obtain ⟨g3, h⟩ := gd_some h
      rcases Bool.eq_false_or_eq_true (decide ((128 : UInt8) ≤ (l0.getD 0 0))) with g4 | g4
      · replace h := bif_t h g4
        refine W_reg hT ftL_nil [(3, false), (9, true)] [] [0, 21] [0] (s' := ⟨[(0, .c (.wh 0)), (21, .c (.s (.b true)))], [], [⟨(.ro false), 5, 1, l0.length, .b l0⟩]⟩) (by kernel_rfl) (allP_cons.2 ⟨g1, (allP_cons.2 ⟨g2, (allP_cons.2 ⟨g3, (allP_cons.2 ⟨g4, allP_nil⟩)⟩)⟩)⟩) ?_
        refine W_cond (b := true) (by kernel_rfl) (fun _ => ?_) (fun hb => by cases hb)
        refine W_seq ?_
        refine W_reg hT ftL_nil [] [] [2, 3] [] (s' := ⟨[(2, .c (.nils)), (3, .c (.s (.er 31 .i64 (some 2))))], [], []⟩) (by kernel_rfl) allP_nil ?_
        refine W_co [.nil 2 89 1 (.w [])] [2, 3] [0] (s' := (pReadBig_R ([], 0, (some 2)))) (by kernel_rfl) (W_ret ?_)
        exact ⟨.inl rfl, by cases h; rfl⟩
      · replace h := bif_f h g4
        rcases Bool.eq_false_or_eq_true (decide ((1 : Int) < ((l0.length : Nat) : Int))) with g5 | g5
        · replace h := bif_t h g5
          obtain ⟨r19, g6, h⟩ := bind_some' h
          refine W_reg hT (ftL_cons (k := 15) (f := 48) (F := (pspare_ct n r19)) (pspare_ok n r19) (fun _ _ => True.intro) ftL_nil) [(3, false), (9, false), (13, true)] [] [0, 21] [0] (s' := ⟨[(0, .c (.wh 0)), (21, .c (.s (.b r19)))], [], [⟨(.ro false), 5, 1, l0.length, .b l0⟩]⟩) (by kernel_rfl) (allP_cons.2 ⟨g1, (allP_cons.2 ⟨g2, (allP_cons.2 ⟨g3, (allP_cons.2 ⟨g4, (allP_cons.2 ⟨g5, (allP_cons.2 ⟨g6, allP_nil⟩)⟩)⟩)⟩)⟩)⟩) ?_
          refine W_cond (b := r19) (by kernel_rfl) (fun g8 => ?_) (fun g8 => ?_)
          · replace h := bif_t h g8
            refine W_seq ?_
            refine W_reg hT ftL_nil [] [] [2, 3] [] (s' := ⟨[(2, .c (.nils)), (3, .c (.s (.er 31 .i64 (some 2))))], [], []⟩) (by kernel_rfl) allP_nil ?_
            refine W_co [.nil 2 89 1 (.w [])] [2, 3] [0] (s' := (pReadBig_R ([], 0, (some 2)))) (by kernel_rfl) (W_ret ?_)
            exact ⟨.inl rfl, by cases h; rfl⟩
          · replace h := bif_f h g8
            refine W_co [] [0] [0] (s' := ⟨[(0, .c (.wh 0))], [], [⟨(.ro false), 5, 1, l0.length, .b l0⟩]⟩) (by kernel_rfl) (W_skip ?_)
            refine W_seq ?_
            obtain ⟨r24, g7, h⟩ := bind_some' h
            refine W_reg hT (ftL_cons (k := 1) (f := 70) (F := (pRead_ct n r24)) (pRead_ok n r24) (fun _ _ => True.intro) ftL_nil) [] [] [2, 3] [1] (s' := ⟨[(2, .c (.wh 0)), (3, .c (.s (.er 31 .i64 r24.2.2)))], [], [⟨.row, 89, 1, r24.2.1, .w r24.1⟩]⟩) (by kernel_rfl) (allP_cons.2 ⟨g7, allP_nil⟩) ?_
            refine W_co [] [2, 3] [0] (s' := (pReadBig_R (r24.1, r24.2.1, r24.2.2))) (by kernel_rfl) (W_ret ?_)
            exact ⟨.inl rfl, by cases h; rfl⟩
        · replace h := bif_f h g5
          refine W_reg hT ftL_nil [(3, false), (9, false), (13, false)] [] [0, 21] [0] (s' := ⟨[(0, .c (.wh 0)), (21, .c (.s (.b false)))], [], [⟨(.ro false), 5, 1, l0.length, .b l0⟩]⟩) (by kernel_rfl) (allP_cons.2 ⟨g1, (allP_cons.2 ⟨g2, (allP_cons.2 ⟨g3, (allP_cons.2 ⟨g4, (allP_cons.2 ⟨g5, allP_nil⟩)⟩)⟩)⟩)⟩) ?_
          refine W_cond (b := false) (by kernel_rfl) (fun hb => by cases hb) (fun _ => ?_)
          refine W_co [] [0] [0] (s' := ⟨[(0, .c (.wh 0))], [], [⟨(.ro false), 5, 1, l0.length, .b l0⟩]⟩) (by kernel_rfl) (W_skip ?_)
          refine W_seq ?_
          obtain ⟨r24, g9, h⟩ := bind_some' h
          refine W_reg hT (ftL_cons (k := 1) (f := 70) (F := (pRead_ct n r24)) (pRead_ok n r24) (fun _ _ => True.intro) ftL_nil) [] [] [2, 3] [1] (s' := ⟨[(2, .c (.wh 0)), (3, .c (.s (.er 31 .i64 r24.2.2)))], [], [⟨.row, 89, 1, r24.2.1, .w r24.1⟩]⟩) (by kernel_rfl) (allP_cons.2 ⟨g9, allP_nil⟩) ?_
          refine W_co [] [2, 3] [0] (s' := (pReadBig_R (r24.1, r24.2.1, r24.2.2))) (by kernel_rfl) (W_ret ?_)
          exact ⟨.inl rfl, by cases h; rfl⟩
  · rintro e s' ⟨he, rfl⟩
    refine ⟨he, fun a' w' hr => ?_⟩
    exact retS_ok tabO_pb hr (rs := [.tmp 2, .tmp 3]) rfl (objs := [0]) (by kernel_rfl)
def rBytes_j1_E (a0 : List UInt8) (z3_2 : List Int) (i4_2 : Int) (i5_8 : Int) : S := ⟨[(0, .c (.wh 0)), (3, .c (.wh 1)), (4, .c (.s (.k .i64 i4_2))), (5, .c (.s (.k .i64 i5_8)))], [], [⟨(.ro false), 5, 1, a0.length, .b a0⟩, ⟨.row, 3, 1, z3_2.length, .z z3_2⟩]⟩
def rBytes_j1_P (n : Nat) (a0 : List UInt8) (z3_2 : List Int) (i4_2 : Int) (k_l1 : (List Int) → Int → Option (List Int × Nat)) (r : List Int × Nat) : S → Prop := fun s => ∃ (i5_8 : Int), s = rBytes_j1_E a0 z3_2 i4_2 i5_8 ∧ rBytes_j1 n a0 z3_2 i4_2 k_l1 i5_8 = some r
theorem rBytes_j1_M {n : Nat} {a0 : List UInt8} {z3_2 : List Int} {i4_2 : Int} {k_l1 : (List Int) → Int → Option (List Int × Nat)} {i5_8 : Int} {r : List Int × Nat} (h : rBytes_j1 n a0 z3_2 i4_2 k_l1 i5_8 = some r) : rBytes_j1_P n a0 z3_2 i4_2 k_l1 r (rBytes_j1_E a0 z3_2 i4_2 i5_8) := ⟨i5_8, rfl, h⟩
def rBytes_l1_E (a0 : List UInt8) (z3_2 : List Int) (i4_2 : Int) : S := ⟨[(0, .c (.wh 0)), (3, .c (.wh 1)), (4, .c (.s (.k .i64 i4_2)))], [], [⟨(.ro false), 5, 1, a0.length, .b a0⟩, ⟨.row, 3, 1, z3_2.length, .z z3_2⟩]⟩
def rBytes_l1_P (n : Nat) (a0 : List UInt8) (r : List Int × Nat) (fu : Nat) : S → Prop := fun s => ∃ (z3_2 : List Int), ∃ (i4_2 : Int), s = rBytes_l1_E a0 z3_2 i4_2 ∧ rBytes_l1 n a0 fu z3_2 i4_2 = some r
theorem rBytes_l1_M {n : Nat} {a0 : List UInt8} {z3_2 : List Int} {i4_2 : Int} {r : List Int × Nat} {fu : Nat} (h : rBytes_l1 n a0 fu z3_2 i4_2 = some r) : rBytes_l1_P n a0 r fu (rBytes_l1_E a0 z3_2 i4_2) := ⟨z3_2, i4_2, rfl, h⟩
def rBytes_R (r : List Int × Nat) : S := ⟨[(2, .c (.wh 0))], [], [⟨(.ro true), 3, 1, r.2, .z r.1⟩]⟩
def rBytes_ct (n : Nat) (r : List Int × Nat) : Ct := fun args H => match args with
  | [x0] => (match aB H x0 with | some l0 => some ([rBytes n l0 = some r], shA H.length (.c (.wh 0)), shH H.length [⟨(.ro true), 3, 1, r.2, .z r.1⟩]) | none => none)
  | _ => none
theorem rBytes_ok (n : Nat) (r : List Int × Nat) : FnOk Try.prog Tr 42 (rBytes_ct n r) := by
  refine ⟨fun args H g av objs hF hg ρ w vals hG hp ha => ?_, _, Try.func42, by kernel_rfl, by kernel_rfl⟩
  obtain ⟨x0, rfl⟩ : ∃ x0, args = [x0] := by
    unfold rBytes_ct at hF; split at hF
    · exact ⟨_, rfl⟩
    · cases hF
  cases e0 : aB H x0 with
  | none => simp only [rBytes_ct, e0, reduceCtorEq] at hF
  | some l0 =>
  simp only [rBytes_ct, e0, Option.some.injEq, Prod.mk.injEq] at hF
  obtain ⟨rfl, rfl, rfl⟩ := hF
  obtain ⟨v0, vals, rfl, k0, ha⟩ := F2.inv ha
  obtain rfl := F2.inv0 ha
  have hI : ∀ w', Kp (noB (fun _ => undef)) w w' → Tr w' := fun _ hk => Tr.keep hk.below hG
  have h : rBytes n l0 = some r := hg
  obtain ⟨p0, s0, o0⟩ := aB_ok hp e0 (k0) 5
  have hR0 := rel0 (gv := (fun _ => undef)) (n := 35) (w := w) (args := [.c (.wh 0)]) (H := [⟨.ro false, 5, 1, l0.length, .b l0⟩]) (gl := []) (hpL (ps := [p0]) (F2.cons o0 F2.nil)) (allRo_ok rfl) (F2.cons s0 F2.nil) GlR.nil (by simp)
  clear ha hp hg k0 e0
  refine calls_W Try.func42 rfl rfl hR0 (Q := fun e s => (e = .ret ∨ e = .normal) ∧ s = rBytes_R r) ?_ ?_
  · clear hR0
    unfold rBytes at h
    have hT := tabO_pb
    refine W_seq ?_
    refine W_reg hT ftL_nil [] [] [0] [0] (s' := ⟨[(0, .c (.wh 0))], [], [⟨(.ro false), 5, 1, l0.length, .b l0⟩]⟩) (by kernel_rfl) allP_nil ?_
    refine W_seq ?_
    refine W_reg hT ftL_nil [] [] [0, 3] [0] (s' := ⟨[(0, .c (.wh 0)), (3, .c (.nils))], [], [⟨(.ro false), 5, 1, l0.length, .b l0⟩]⟩) (by kernel_rfl) allP_nil ?_
    refine W_seq ?_
    refine W_seq ?_
    obtain ⟨g1, h⟩ := gd_some h
    refine W_reg hT ftL_nil [] [] [0, 3, 4] [0] (s' := ⟨[(0, .c (.wh 0)), (3, .c (.nils)), (4, .c (.s (.k .i64 (((l0.length : Nat) : Int) - 1))))], [], [⟨(.ro false), 5, 1, l0.length, .b l0⟩]⟩) (by kernel_rfl) (allP_cons.2 ⟨g1, allP_nil⟩) ?_
    refine W_block ?_
    refine W_co [.nil 3 3 1 (.z [])] [0, 3, 4] [0, 1] (s' := (rBytes_l1_E l0 [] (((l0.length : Nat) : Int) - 1))) (by kernel_rfl) (W_lp ((rBytes_l1_P n l0 r)) n (rBytes_l1_M h) ?_)
    rintro fu_l1 _ ⟨z3_2, i4_2, rfl, h⟩
    cases fu_l1 with
    | zero => cases h
    | succ fu_l1 =>
      refine ⟨fu_l1, rfl, ?_⟩
      rw [rBytes_l1] at h
      refine W_seq ?_
      refine W_seq ?_
      refine W_reg hT ftL_nil [] [] [0, 3, 4, 10] [0, 1] (s' := ⟨[(0, .c (.wh 0)), (3, .c (.wh 1)), (4, .c (.s (.k .i64 i4_2))), (10, .c (.s (.b (decide ((0 : Int) ≤ i4_2)))))], [], [⟨(.ro false), 5, 1, l0.length, .b l0⟩, ⟨.row, 3, 1, z3_2.length, .z z3_2⟩]⟩) (by kernel_rfl) allP_nil ?_
      refine W_cond (b := (decide ((0 : Int) ≤ i4_2))) (by kernel_rfl) (fun g13 => ?_) (fun g13 => ?_)
      · replace h := bif_t h g13
        refine W_co [] [0, 3, 4] [0, 1] (s' := ⟨[(0, .c (.wh 0)), (3, .c (.wh 1)), (4, .c (.s (.k .i64 i4_2)))], [], [⟨(.ro false), 5, 1, l0.length, .b l0⟩, ⟨.row, 3, 1, z3_2.length, .z z3_2⟩]⟩) (by kernel_rfl) (W_skip ?_)
        refine W_seq ?_
        refine W_block ?_
        refine W_seq ?_
        obtain ⟨g2, h⟩ := gd_some h
        obtain ⟨g3, h⟩ := gd_some h
        refine W_reg hT ftL_nil [] [] [0, 3, 4, 5] [0, 1] (s' := ⟨[(0, .c (.wh 0)), (3, .c (.wh 1)), (4, .c (.s (.k .i64 i4_2))), (5, .c (.s (.k .i64 (((l0.getD i4_2.toNat 0).toNat : Nat) : Int))))], [], [⟨(.ro false), 5, 1, l0.length, .b l0⟩, ⟨.row, 3, 1, z3_2.length, .z z3_2⟩]⟩) (by kernel_rfl) (allP_cons.2 ⟨g2, (allP_cons.2 ⟨g3, allP_nil⟩)⟩) ?_
        refine W_join (rBytes_j1_P n l0 z3_2 i4_2 (rBytes_l1 n l0 fu_l1) r) ?_ ?_
        · rintro _ ⟨i5_8, rfl, h⟩
          unfold rBytes_j1 at h
          obtain ⟨g4, h⟩ := gd_some h
          refine W_reg hT ftL_nil [] [] [0, 3, 4] [0, 3] (s' := ⟨[(0, .c (.wh 0)), (3, .c (.wh 1)), (4, .c (.s (.k .i64 i4_2)))], [], [⟨(.ro false), 5, 1, l0.length, .b l0⟩, ⟨.row, 3, 1, (z3_2 ++ [i5_8]).length, .z (z3_2 ++ [i5_8])⟩]⟩) (by kernel_rfl) (allP_cons.2 ⟨g4, allP_nil⟩) ?_
          obtain ⟨g5, h⟩ := gd_some h
          refine W_reg hT ftL_nil [] [] [0, 3, 4] [0, 1] (s' := (rBytes_l1_E l0 (z3_2 ++ [i5_8]) (i4_2 - 2))) (by kernel_rfl) (allP_cons.2 ⟨g5, allP_nil⟩) ?_
          exact rBytes_l1_M h
        · refine W_seq ?_
          refine W_reg hT ftL_nil [] [] [0, 3, 4, 5, 19] [0, 1] (s' := ⟨[(0, .c (.wh 0)), (3, .c (.wh 1)), (4, .c (.s (.k .i64 i4_2))), (5, .c (.s (.k .i64 (((l0.getD i4_2.toNat 0).toNat : Nat) : Int)))), (19, .c (.s (.b (decide ((0 : Int) < i4_2)))))], [], [⟨(.ro false), 5, 1, l0.length, .b l0⟩, ⟨.row, 3, 1, z3_2.length, .z z3_2⟩]⟩) (by kernel_rfl) allP_nil ?_
          refine W_cond (b := (decide ((0 : Int) < i4_2))) (by kernel_rfl) (fun g11 => ?_) (fun g11 => ?_)
          · replace h := bif_t h g11
            obtain ⟨g6, h⟩ := gd_some h
            obtain ⟨g7, h⟩ := gd_some h
            obtain ⟨g8, h⟩ := gd_some h
            obtain ⟨g9, h⟩ := gd_some h
            obtain ⟨g10, h⟩ := gd_some h
            refine W_reg hT ftL_nil [] [] [0, 3, 4, 5] [0, 1] (s' := (rBytes_j1_E l0 z3_2 i4_2 ((((l0.getD i4_2.toNat 0).toNat : Nat) : Int) + ((((l0.getD ((i4_2 - 1).toNat) 0).toNat : Nat) : Int) * 256)))) (by kernel_rfl) (allP_cons.2 ⟨g6, (allP_cons.2 ⟨g7, (allP_cons.2 ⟨g8, (allP_cons.2 ⟨g9, (allP_cons.2 ⟨g10, allP_nil⟩)⟩)⟩)⟩)⟩) ?_
            exact rBytes_j1_M h
          · replace h := bif_f h g11
            refine W_co [] [0, 3, 4, 5] [0, 1] (s' := (rBytes_j1_E l0 z3_2 i4_2 (((l0.getD i4_2.toNat 0).toNat : Nat) : Int))) (by kernel_rfl) (W_skip ?_)
            exact rBytes_j1_M h
      · replace h := bif_f h g13
        refine W_co [] [3] [1] (s' := ⟨[(3, .c (.wh 0))], [], [⟨.row, 3, 1, z3_2.length, .z z3_2⟩]⟩) (by kernel_rfl) (W_exit ?_)
        refine W_seq ?_
        obtain ⟨r34_2, g12, h⟩ := bind_some' h
        refine W_reg hT (ftL_cons (k := 1) (f := 71) (F := (rtrim_ct n r34_2)) (rtrim_ok n r34_2) (fun _ _ => True.intro) ftL_nil) [] [] [2] [0] (s' := ⟨[(2, .c (.sl 0 0 r34_2.2))], [], [⟨.row, 3, 1, z3_2.length, .z z3_2⟩]⟩) (by kernel_rfl) (allP_cons.2 ⟨g12, allP_nil⟩) ?_
        refine W_co [.vw 2 true] [2] [1] (s' := (rBytes_R (((z3_2.drop 0).take r34_2.2), r34_2.2))) (by kernel_rfl) (W_ret ?_)
        exact ⟨.inl rfl, by cases h; rfl⟩
  · rintro e s' ⟨he, rfl⟩
    refine ⟨he, fun a' w' hr => ?_⟩
    exact retS_ok tabO_pb hr (rs := [.tmp 2]) rfl (objs := [0]) (by kernel_rfl)
def rTo_j1_E (a0 : List Int) (w3_2 : List UInt32) (i4_2 : Int) (x5_8 : UInt32) : S := ⟨[(0, .c (.wh 0)), (3, .c (.wh 1)), (4, .c (.s (.k .i64 i4_2))), (5, .c (.s (.u32 x5_8)))], [], [⟨(.ro false), 3, 1, a0.length, .z a0⟩, ⟨.row, 89, 1, w3_2.length, .w w3_2⟩]⟩
def rTo_j1_P (n : Nat) (a0 : List Int) (w3_2 : List UInt32) (i4_2 : Int) (k_l1 : (List UInt32) → Int → Option (List UInt32)) (r : List UInt32) : S → Prop := fun s => ∃ (x5_8 : UInt32), s = rTo_j1_E a0 w3_2 i4_2 x5_8 ∧ rTo_j1 n a0 w3_2 i4_2 k_l1 x5_8 = some r
theorem rTo_j1_M {n : Nat} {a0 : List Int} {w3_2 : List UInt32} {i4_2 : Int} {k_l1 : (List UInt32) → Int → Option (List UInt32)} {x5_8 : UInt32} {r : List UInt32} (h : rTo_j1 n a0 w3_2 i4_2 k_l1 x5_8 = some r) : rTo_j1_P n a0 w3_2 i4_2 k_l1 r (rTo_j1_E a0 w3_2 i4_2 x5_8) := ⟨x5_8, rfl, h⟩
def rTo_l1_E (a0 : List Int) (w3_2 : List UInt32) (i4_2 : Int) : S := ⟨[(0, .c (.wh 0)), (3, .c (.wh 1)), (4, .c (.s (.k .i64 i4_2)))], [], [⟨(.ro false), 3, 1, a0.length, .z a0⟩, ⟨.row, 89, 1, w3_2.length, .w w3_2⟩]⟩
def rTo_l1_P (n : Nat) (a0 : List Int) (r : List UInt32) (fu : Nat) : S → Prop := fun s => ∃ (w3_2 : List UInt32), ∃ (i4_2 : Int), s = rTo_l1_E a0 w3_2 i4_2 ∧ rTo_l1 n a0 fu w3_2 i4_2 = some r
theorem rTo_l1_M {n : Nat} {a0 : List Int} {w3_2 : List UInt32} {i4_2 : Int} {r : List UInt32} {fu : Nat} (h : rTo_l1 n a0 fu w3_2 i4_2 = some r) : rTo_l1_P n a0 r fu (rTo_l1_E a0 w3_2 i4_2) := ⟨w3_2, i4_2, rfl, h⟩
def rTo_R (r : List UInt32) : S := ⟨[(2, .c (.wh 0))], [], [⟨.row, 89, 1, r.length, .w r⟩]⟩
def rTo_ct (n : Nat) (r : List UInt32) : Ct := fun args H => match args with
  | [x0] => (match aZ H x0 with | some l0 => some ([rTo n l0 = some r], shA H.length (.c (.wh 0)), shH H.length [⟨.row, 89, 1, r.length, .w r⟩]) | none => none)
  | _ => none
theorem rTo_ok (n : Nat) (r : List UInt32) : FnOk Try.prog Tr 72 (rTo_ct n r) := by
  refine ⟨fun args H g av objs hF hg ρ w vals hG hp ha => ?_, _, Try.func72, by kernel_rfl, by kernel_rfl⟩
  obtain ⟨x0, rfl⟩ : ∃ x0, args = [x0] := by
    unfold rTo_ct at hF; split at hF
    · exact ⟨_, rfl⟩
    · cases hF
  cases e0 : aZ H x0 with
  | none => simp only [rTo_ct, e0, reduceCtorEq] at hF
  | some l0 =>
  simp only [rTo_ct, e0, Option.some.injEq, Prod.mk.injEq] at hF
  obtain ⟨rfl, rfl, rfl⟩ := hF
  obtain ⟨v0, vals, rfl, k0, ha⟩ := F2.inv ha
  obtain rfl := F2.inv0 ha
  have hI : ∀ w', Kp (noB (fun _ => undef)) w w' → Tr w' := fun _ hk => Tr.keep hk.below hG
  have h : rTo n l0 = some r := hg
  obtain ⟨p0, s0, o0⟩ := aZ_ok hp e0 (k0) 3
  have hR0 := rel0 (gv := (fun _ => undef)) (n := 36) (w := w) (args := [.c (.wh 0)]) (H := [⟨.ro false, 3, 1, l0.length, .z l0⟩]) (gl := []) (hpL (ps := [p0]) (F2.cons o0 F2.nil)) (allRo_ok rfl) (F2.cons s0 F2.nil) GlR.nil (by simp)
  clear ha hp hg k0 e0
  refine calls_W Try.func72 rfl rfl hR0 (Q := fun e s => (e = .ret ∨ e = .normal) ∧ s = rTo_R r) ?_ ?_
  · clear hR0
    unfold rTo at h
    have hT := tabO_pb
    refine W_seq ?_
    refine W_reg hT ftL_nil [] [] [0] [0] (s' := ⟨[(0, .c (.wh 0))], [], [⟨(.ro false), 3, 1, l0.length, .z l0⟩]⟩) (by kernel_rfl) allP_nil ?_
    refine W_seq ?_
    refine W_reg hT ftL_nil [] [] [0, 3] [0] (s' := ⟨[(0, .c (.wh 0)), (3, .c (.nils))], [], [⟨(.ro false), 3, 1, l0.length, .z l0⟩]⟩) (by kernel_rfl) allP_nil ?_
    refine W_seq ?_
    refine W_seq ?_
    refine W_reg hT ftL_nil [] [] [0, 3, 4] [0] (s' := ⟨[(0, .c (.wh 0)), (3, .c (.nils)), (4, .c (.s (.k .i64 0)))], [], [⟨(.ro false), 3, 1, l0.length, .z l0⟩]⟩) (by kernel_rfl) allP_nil ?_
    refine W_block ?_
    refine W_co [.nil 3 89 1 (.w [])] [0, 3, 4] [0, 1] (s' := (rTo_l1_E l0 [] 0)) (by kernel_rfl) (W_lp ((rTo_l1_P n l0 r)) n (rTo_l1_M h) ?_)
    rintro fu_l1 _ ⟨w3_2, i4_2, rfl, h⟩
    cases fu_l1 with
    | zero => cases h
    | succ fu_l1 =>
      refine ⟨fu_l1, rfl, ?_⟩
      rw [rTo_l1] at h
      refine W_seq ?_
      refine W_seq ?_
      refine W_reg hT ftL_nil [] [] [0, 3, 4, 9] [0, 1] (s' := ⟨[(0, .c (.wh 0)), (3, .c (.wh 1)), (4, .c (.s (.k .i64 i4_2))), (9, .c (.s (.b (decide (i4_2 < ((l0.length : Nat) : Int))))))], [], [⟨(.ro false), 3, 1, l0.length, .z l0⟩, ⟨.row, 89, 1, w3_2.length, .w w3_2⟩]⟩) (by kernel_rfl) allP_nil ?_
      refine W_cond (b := (decide (i4_2 < ((l0.length : Nat) : Int)))) (by kernel_rfl) (fun g10 => ?_) (fun g10 => ?_)
      · replace h := bif_t h g10
        refine W_co [] [0, 3, 4] [0, 1] (s' := ⟨[(0, .c (.wh 0)), (3, .c (.wh 1)), (4, .c (.s (.k .i64 i4_2)))], [], [⟨(.ro false), 3, 1, l0.length, .z l0⟩, ⟨.row, 89, 1, w3_2.length, .w w3_2⟩]⟩) (by kernel_rfl) (W_skip ?_)
        refine W_seq ?_
        refine W_block ?_
        refine W_seq ?_
        obtain ⟨g1, h⟩ := gd_some h
        obtain ⟨g2, h⟩ := gd_some h
        refine W_reg hT ftL_nil [] [] [0, 3, 4, 5] [0, 1] (s' := ⟨[(0, .c (.wh 0)), (3, .c (.wh 1)), (4, .c (.s (.k .i64 i4_2))), (5, .c (.s (.u32 (UInt32.ofInt (l0.getD i4_2.toNat 0)))))], [], [⟨(.ro false), 3, 1, l0.length, .z l0⟩, ⟨.row, 89, 1, w3_2.length, .w w3_2⟩]⟩) (by kernel_rfl) (allP_cons.2 ⟨g1, (allP_cons.2 ⟨g2, allP_nil⟩)⟩) ?_
        refine W_join (rTo_j1_P n l0 w3_2 i4_2 (rTo_l1 n l0 fu_l1) r) ?_ ?_
        · rintro _ ⟨x5_8, rfl, h⟩
          unfold rTo_j1 at h
          obtain ⟨g3, h⟩ := gd_some h
          refine W_reg hT ftL_nil [] [] [0, 3, 4] [0, 3] (s' := ⟨[(0, .c (.wh 0)), (3, .c (.wh 1)), (4, .c (.s (.k .i64 i4_2)))], [], [⟨(.ro false), 3, 1, l0.length, .z l0⟩, ⟨.row, 89, 1, (w3_2 ++ [x5_8]).length, .w (w3_2 ++ [x5_8])⟩]⟩) (by kernel_rfl) (allP_cons.2 ⟨g3, allP_nil⟩) ?_
          obtain ⟨g4, h⟩ := gd_some h
          refine W_reg hT ftL_nil [] [] [0, 3, 4] [0, 1] (s' := (rTo_l1_E l0 (w3_2 ++ [x5_8]) (i4_2 + 2))) (by kernel_rfl) (allP_cons.2 ⟨g4, allP_nil⟩) ?_
          exact rTo_l1_M h
        · refine W_seq ?_
          obtain ⟨g5, h⟩ := gd_some h
          refine W_reg hT ftL_nil [] [] [0, 3, 4, 5, 21] [0, 1] (s' := ⟨[(0, .c (.wh 0)), (3, .c (.wh 1)), (4, .c (.s (.k .i64 i4_2))), (5, .c (.s (.u32 (UInt32.ofInt (l0.getD i4_2.toNat 0))))), (21, .c (.s (.b (decide ((i4_2 + 1) < ((l0.length : Nat) : Int))))))], [], [⟨(.ro false), 3, 1, l0.length, .z l0⟩, ⟨.row, 89, 1, w3_2.length, .w w3_2⟩]⟩) (by kernel_rfl) (allP_cons.2 ⟨g5, allP_nil⟩) ?_
          refine W_cond (b := (decide ((i4_2 + 1) < ((l0.length : Nat) : Int)))) (by kernel_rfl) (fun g9 => ?_) (fun g9 => ?_)
          · replace h := bif_t h g9
            obtain ⟨g6, h⟩ := gd_some h
            obtain ⟨g7, h⟩ := gd_some h
            obtain ⟨g8, h⟩ := gd_some h
            refine W_reg hT ftL_nil [] [] [0, 3, 4, 5] [0, 1] (s' := (rTo_j1_E l0 w3_2 i4_2 ((UInt32.ofInt (l0.getD i4_2.toNat 0)) + ((UInt32.ofInt (l0.getD ((i4_2 + 1).toNat) 0)) * (65536 : UInt32))))) (by kernel_rfl) (allP_cons.2 ⟨g6, (allP_cons.2 ⟨g7, (allP_cons.2 ⟨g8, allP_nil⟩)⟩)⟩) ?_
            exact rTo_j1_M h
          · replace h := bif_f h g9
            refine W_co [] [0, 3, 4, 5] [0, 1] (s' := (rTo_j1_E l0 w3_2 i4_2 (UInt32.ofInt (l0.getD i4_2.toNat 0)))) (by kernel_rfl) (W_skip ?_)
            exact rTo_j1_M h
      · replace h := bif_f h g10
        refine W_co [] [3] [1] (s' := ⟨[(3, .c (.wh 0))], [], [⟨.row, 89, 1, w3_2.length, .w w3_2⟩]⟩) (by kernel_rfl) (W_exit ?_)
        refine W_seq ?_
        refine W_reg hT ftL_nil [] [] [2] [0] (s' := ⟨[(2, .c (.wh 0))], [], [⟨.row, 89, 1, w3_2.length, .w w3_2⟩]⟩) (by kernel_rfl) allP_nil ?_
        refine W_co [] [2] [0] (s' := (rTo_R w3_2)) (by kernel_rfl) (W_ret ?_)
        exact ⟨.inl rfl, by cases h; rfl⟩
  · rintro e s' ⟨he, rfl⟩
    refine ⟨he, fun a' w' hr => ?_⟩
    exact retS_ok tabO_pb hr (rs := [.tmp 2]) rfl (objs := [0]) (by kernel_rfl)
def rSame_l1_E (a0 : List UInt32) (r8 : List UInt32) (i6_2 : Int) : S := ⟨[(0, .c (.wh 0)), (5, .c (.wh 1)), (6, .c (.s (.k .i64 i6_2)))], [], [⟨(.ro false), 89, 1, a0.length, .w a0⟩, ⟨.row, 89, 1, r8.length, .w r8⟩]⟩
def rSame_l1_P (n : Nat) (a0 : List UInt32) (r8 : List UInt32) (r : Bool) (fu : Nat) : S → Prop := fun s => ∃ (i6_2 : Int), s = rSame_l1_E a0 r8 i6_2 ∧ rSame_l1 n a0 r8 fu i6_2 = some r
theorem rSame_l1_M {n : Nat} {a0 : List UInt32} {r8 : List UInt32} {i6_2 : Int} {r : Bool} {fu : Nat} (h : rSame_l1 n a0 r8 fu i6_2 = some r) : rSame_l1_P n a0 r8 r fu (rSame_l1_E a0 r8 i6_2) := ⟨i6_2, rfl, h⟩
def rSame_R (r : Bool) : S := ⟨[(4, .c (.s (.b r)))], [], []⟩
def rSame_ct (n : Nat) (r : Bool) : Ct := fun args H => match args with
  | [x0, x1] => (match aW H x0 with | some l0 => (match aZ H x1 with | some l1 => some ([rSame n l0 l1 = some r], shA H.length (.c (.s (.b r))), shH H.length []) | none => none) | none => none)
  | _ => none
theorem rSame_ok (n : Nat) (r : Bool) : FnOk Try.prog Tr 44 (rSame_ct n r) := by
  refine ⟨fun args H g av objs hF hg ρ w vals hG hp ha => ?_, _, Try.func44, by kernel_rfl, by kernel_rfl⟩
  obtain ⟨x0, x1, rfl⟩ : ∃ x0 x1, args = [x0, x1] := by
    unfold rSame_ct at hF; split at hF
    · exact ⟨_, _, rfl⟩
    · cases hF
  cases e0 : aW H x0 with
  | none => simp only [rSame_ct, e0, reduceCtorEq] at hF
  | some l0 =>
  cases e1 : aZ H x1 with
  | none => simp only [rSame_ct, e0, e1, reduceCtorEq] at hF
  | some l1 =>
  simp only [rSame_ct, e0, e1, Option.some.injEq, Prod.mk.injEq] at hF
  obtain ⟨rfl, rfl, rfl⟩ := hF
  obtain ⟨v0, vals, rfl, k0, ha⟩ := F2.inv ha
  obtain ⟨v1, vals, rfl, k1, ha⟩ := F2.inv ha
  obtain rfl := F2.inv0 ha
  have hI : ∀ w', Kp (noB (fun _ => undef)) w w' → Tr w' := fun _ hk => Tr.keep hk.below hG
  have h : rSame n l0 l1 = some r := hg
  obtain ⟨p0, s0, o0⟩ := aW_ok hp e0 (k0) 89
  obtain ⟨p1, s1, o1⟩ := aZ_ok hp e1 (k1) 3
  have hR0 := rel0 (gv := (fun _ => undef)) (n := 29) (w := w) (args := [.c (.wh 0), .c (.wh 1)]) (H := [⟨.ro false, 89, 1, l0.length, .w l0⟩, ⟨.ro false, 3, 1, l1.length, .z l1⟩]) (gl := []) (hpL (ps := [p0, p1]) (F2.cons o0 (F2.cons o1 F2.nil))) (allRo_ok rfl) (F2.cons s0 (F2.cons s1 F2.nil)) GlR.nil (by simp)
  clear ha hp hg k0 k1 e0 e1
  refine calls_W Try.func44 rfl rfl hR0 (Q := fun e s => (e = .ret ∨ e = .normal) ∧ s = rSame_R r) ?_ ?_
  · clear hR0
    unfold rSame at h
    have hT := tabO_pb
    refine W_seq ?_
    refine W_reg hT ftL_nil [] [] [0, 1] [0, 1] (s' := ⟨[(0, .c (.wh 0)), (1, .c (.wh 1))], [], [⟨(.ro false), 89, 1, l0.length, .w l0⟩, ⟨(.ro false), 3, 1, l1.length, .z l1⟩]⟩) (by kernel_rfl) allP_nil ?_
    refine W_seq ?_
    obtain ⟨r8, g1, h⟩ := bind_some' h
    refine W_reg hT (ftL_cons (k := 1) (f := 72) (F := (rTo_ct n r8)) (rTo_ok n r8) (fun _ _ => True.intro) ftL_nil) [] [] [0, 5] [0, 2] (s' := ⟨[(0, .c (.wh 0)), (5, .c (.wh 1))], [], [⟨(.ro false), 89, 1, l0.length, .w l0⟩, ⟨.row, 89, 1, r8.length, .w r8⟩]⟩) (by kernel_rfl) (allP_cons.2 ⟨g1, allP_nil⟩) ?_
    refine W_seq ?_
    refine W_seq ?_
    refine W_reg hT ftL_nil [] [] [0, 5, 13] [0, 1] (s' := ⟨[(0, .c (.wh 0)), (5, .c (.wh 1)), (13, .c (.s (.b (((l0.length : Nat) : Int) != ((r8.length : Nat) : Int)))))], [], [⟨(.ro false), 89, 1, l0.length, .w l0⟩, ⟨.row, 89, 1, r8.length, .w r8⟩]⟩) (by kernel_rfl) allP_nil ?_
    refine W_cond (b := (((l0.length : Nat) : Int) != ((r8.length : Nat) : Int))) (by kernel_rfl) (fun g9 => ?_) (fun g9 => ?_)
    · replace h := bif_t h g9
      refine W_seq ?_
      refine W_reg hT ftL_nil [] [] [4] [] (s' := ⟨[(4, .c (.s (.b false)))], [], []⟩) (by kernel_rfl) allP_nil ?_
      refine W_co [] [4] [] (s' := (rSame_R false)) (by kernel_rfl) (W_ret ?_)
      exact ⟨.inl rfl, by cases h; rfl⟩
    · replace h := bif_f h g9
      refine W_co [] [0, 5] [0, 1] (s' := ⟨[(0, .c (.wh 0)), (5, .c (.wh 1))], [], [⟨(.ro false), 89, 1, l0.length, .w l0⟩, ⟨.row, 89, 1, r8.length, .w r8⟩]⟩) (by kernel_rfl) (W_skip ?_)
      refine W_seq ?_
      refine W_seq ?_
      refine W_reg hT ftL_nil [] [] [0, 5, 6] [0, 1] (s' := ⟨[(0, .c (.wh 0)), (5, .c (.wh 1)), (6, .c (.s (.k .i64 0)))], [], [⟨(.ro false), 89, 1, l0.length, .w l0⟩, ⟨.row, 89, 1, r8.length, .w r8⟩]⟩) (by kernel_rfl) allP_nil ?_
      refine W_block ?_
      refine W_co [] [0, 5, 6] [0, 1] (s' := (rSame_l1_E l0 r8 0)) (by kernel_rfl) (W_lp ((rSame_l1_P n l0 r8 r)) n (rSame_l1_M h) ?_)
      rintro fu_l1 _ ⟨i6_2, rfl, h⟩
      cases fu_l1 with
      | zero => cases h
      | succ fu_l1 =>
        refine ⟨fu_l1, rfl, ?_⟩
        rw [rSame_l1] at h
        refine W_seq ?_
        refine W_seq ?_
        refine W_reg hT ftL_nil [] [] [0, 5, 6, 17] [0, 1] (s' := ⟨[(0, .c (.wh 0)), (5, .c (.wh 1)), (6, .c (.s (.k .i64 i6_2))), (17, .c (.s (.b (decide (i6_2 < ((l0.length : Nat) : Int))))))], [], [⟨(.ro false), 89, 1, l0.length, .w l0⟩, ⟨.row, 89, 1, r8.length, .w r8⟩]⟩) (by kernel_rfl) allP_nil ?_
        refine W_cond (b := (decide (i6_2 < ((l0.length : Nat) : Int)))) (by kernel_rfl) (fun g8 => ?_) (fun g8 => ?_)
        · replace h := bif_t h g8
          refine W_co [] [0, 5, 6] [0, 1] (s' := ⟨[(0, .c (.wh 0)), (5, .c (.wh 1)), (6, .c (.s (.k .i64 i6_2)))], [], [⟨(.ro false), 89, 1, l0.length, .w l0⟩, ⟨.row, 89, 1, r8.length, .w r8⟩]⟩) (by kernel_rfl) (W_skip ?_)
          refine W_seq ?_
          refine W_block ?_
          refine W_seq ?_
          obtain ⟨g2, h⟩ := gd_some h
          obtain ⟨g3, h⟩ := gd_some h
          obtain ⟨g4, h⟩ := gd_some h
          obtain ⟨g5, h⟩ := gd_some h
          refine W_regD hT ftL_nil (by kernel_rfl) 8 [] [(0, false), (5, false), (6, false), (23, false), (27, false)] [] [0, 5, 6, 28] [0, 1] (s' := ⟨[(0, .c (.wh 0)), (5, .c (.wh 1)), (6, .c (.s (.k .i64 i6_2))), (28, .c (.s (.b ((l0.getD i6_2.toNat 0) != (r8.getD i6_2.toNat 0)))))], [], [⟨(.ro false), 89, 1, l0.length, .w l0⟩, ⟨.row, 89, 1, r8.length, .w r8⟩]⟩) (by kernel_rfl) (by kernel_rfl) (allP_cons.2 ⟨g2, (allP_cons.2 ⟨g3, (allP_cons.2 ⟨g4, (allP_cons.2 ⟨g5, allP_nil⟩)⟩)⟩)⟩) ?_
          refine W_cond (b := ((l0.getD i6_2.toNat 0) != (r8.getD i6_2.toNat 0))) (by kernel_rfl) (fun g7 => ?_) (fun g7 => ?_)
          · replace h := bif_t h g7
            refine W_seq ?_
            refine W_reg hT ftL_nil [] [] [4] [] (s' := ⟨[(4, .c (.s (.b false)))], [], []⟩) (by kernel_rfl) allP_nil ?_
            refine W_co [] [4] [] (s' := (rSame_R false)) (by kernel_rfl) (W_ret ?_)
            exact ⟨.inl rfl, by cases h; rfl⟩
          · replace h := bif_f h g7
            refine W_co [] [0, 5, 6] [0, 1] (s' := ⟨[(0, .c (.wh 0)), (5, .c (.wh 1)), (6, .c (.s (.k .i64 i6_2)))], [], [⟨(.ro false), 89, 1, l0.length, .w l0⟩, ⟨.row, 89, 1, r8.length, .w r8⟩]⟩) (by kernel_rfl) (W_skip ?_)
            obtain ⟨g6, h⟩ := gd_some h
            refine W_reg hT ftL_nil [] [] [0, 5, 6] [0, 1] (s' := (rSame_l1_E l0 r8 (i6_2 + 1))) (by kernel_rfl) (allP_cons.2 ⟨g6, allP_nil⟩) ?_
            exact rSame_l1_M h
        · replace h := bif_f h g8
          refine W_co [] [] [] (s' := ⟨[], [], []⟩) (by kernel_rfl) (W_exit ?_)
          refine W_seq ?_
          refine W_reg hT ftL_nil [] [] [4] [] (s' := ⟨[(4, .c (.s (.b true)))], [], []⟩) (by kernel_rfl) allP_nil ?_
          refine W_co [] [4] [] (s' := (rSame_R true)) (by kernel_rfl) (W_ret ?_)
          exact ⟨.inl rfl, by cases h; rfl⟩
  · rintro e s' ⟨he, rfl⟩
    refine ⟨he, fun a' w' hr => ?_⟩
    exact retS_ok tabO_pb hr (rs := [.tmp 4]) rfl (objs := []) (by kernel_rfl)
def rNumber_R (r : Bool) : S := ⟨[(2, .c (.s (.b r)))], [], []⟩
def rNumber_ct (n : Nat) (r : Bool) : Ct := fun args H => match args with
  | [x0] => (match aB H x0 with | some l0 => some ([rNumber n l0 = some r], shA H.length (.c (.s (.b r))), shH H.length []) | none => none)
  | _ => none
theorem rNumber_ok (n : Nat) (r : Bool) : FnOk Try.prog Tr 16 (rNumber_ct n r) := by
  refine ⟨fun args H g av objs hF hg ρ w vals hG hp ha => ?_, _, Try.func16, by kernel_rfl, by kernel_rfl⟩
  obtain ⟨x0, rfl⟩ : ∃ x0, args = [x0] := by
    unfold rNumber_ct at hF; split at hF
    · exact ⟨_, rfl⟩
    · cases hF
  cases e0 : aB H x0 with
  | none => simp only [rNumber_ct, e0, reduceCtorEq] at hF
  | some l0 =>
  simp only [rNumber_ct, e0, Option.some.injEq, Prod.mk.injEq] at hF
  obtain ⟨rfl, rfl, rfl⟩ := hF
  obtain ⟨v0, vals, rfl, k0, ha⟩ := F2.inv ha
  obtain rfl := F2.inv0 ha
  have hI : ∀ w', Kp (noB (fun _ => undef)) w w' → Tr w' := fun _ hk => Tr.keep hk.below hG
  have h : rNumber n l0 = some r := hg
  obtain ⟨p0, s0, o0⟩ := aB_ok hp e0 (k0) 5
  have hR0 := rel0 (gv := (fun _ => undef)) (n := 33) (w := w) (args := [.c (.wh 0)]) (H := [⟨.ro false, 5, 1, l0.length, .b l0⟩]) (gl := []) (hpL (ps := [p0]) (F2.cons o0 F2.nil)) (allRo_ok rfl) (F2.cons s0 F2.nil) GlR.nil (by simp)
  clear ha hp hg k0 e0
  refine calls_W Try.func16 rfl rfl hR0 (Q := fun e s => (e = .ret ∨ e = .normal) ∧ s = rNumber_R r) ?_ ?_
  · clear hR0
    unfold rNumber at h
    have hT := tabO_pb
    refine W_seq ?_
    refine W_reg hT ftL_nil [] [] [0] [0] (s' := ⟨[(0, .c (.wh 0))], [], [⟨(.ro false), 5, 1, l0.length, .b l0⟩]⟩) (by kernel_rfl) allP_nil ?_
    refine W_seq ?_
    refine W_seq ?_
    refine W_reg hT ftL_nil [] [] [0, 5] [0] (s' := ⟨[(0, .c (.wh 0)), (5, .c (.s (.b (((l0.length : Nat) : Int) == 0))))], [], [⟨(.ro false), 5, 1, l0.length, .b l0⟩]⟩) (by kernel_rfl) allP_nil ?_
    refine W_cond (b := (((l0.length : Nat) : Int) == 0)) (by kernel_rfl) (fun g18 => ?_) (fun g18 => ?_)
    · replace h := bif_t h g18
      refine W_seq ?_
      refine W_reg hT ftL_nil [] [] [2] [] (s' := ⟨[(2, .c (.s (.b false)))], [], []⟩) (by kernel_rfl) allP_nil ?_
      refine W_co [] [2] [] (s' := (rNumber_R false)) (by kernel_rfl) (W_ret ?_)
      exact ⟨.inl rfl, by cases h; rfl⟩
    · replace h := bif_f h g18
      refine W_co [] [0] [0] (s' := ⟨[(0, .c (.wh 0))], [], [⟨(.ro false), 5, 1, l0.length, .b l0⟩]⟩) (by kernel_rfl) (W_skip ?_)
      refine W_seq ?_
      refine W_seq ?_
      refine W_reg hT ftL_nil [] [] [0, 8] [0] (s' := ⟨[(0, .c (.wh 0)), (8, .c (.s (.b (((l0.length : Nat) : Int) == 1))))], [], [⟨(.ro false), 5, 1, l0.length, .b l0⟩]⟩) (by kernel_rfl) allP_nil ?_
      refine W_cond (b := (((l0.length : Nat) : Int) == 1)) (by kernel_rfl) (fun g17 => ?_) (fun g17 => ?_)
      · replace h := bif_t h g17
        refine W_seq ?_
        refine W_reg hT ftL_nil [] [] [2] [] (s' := ⟨[(2, .c (.s (.b true)))], [], []⟩) (by kernel_rfl) allP_nil ?_
        refine W_co [] [2] [] (s' := (rNumber_R true)) (by kernel_rfl) (W_ret ?_)
        exact ⟨.inl rfl, by cases h; rfl⟩
      · replace h := bif_f h g17
        refine W_co [] [0] [0] (s' := ⟨[(0, .c (.wh 0))], [], [⟨(.ro false), 5, 1, l0.length, .b l0⟩]⟩) (by kernel_rfl) (W_skip ?_)
        refine W_seq ?_
        obtain ⟨g1, h⟩ := gd_some h
        obtain ⟨g2, h⟩ := gd_some h
        rcases Bool.eq_false_or_eq_true ((l0.getD 0 0) == 0) with g3 | g3
        · replace h := bif_t h g3
          obtain ⟨g4, h⟩ := gd_some h
          obtain ⟨g5, h⟩ := gd_some h
          rcases Bool.eq_false_or_eq_true (!(decide ((l0.getD 1 0) < (128 : UInt8)))) with g6 | g6
          · replace h := bif_t h g6
            obtain ⟨g7, h⟩ := gd_some h
            obtain ⟨g8, h⟩ := gd_some h
            rcases Bool.eq_false_or_eq_true ((l0.getD 0 0) == 255) with g9 | g9
            · replace h := bif_t h g9
              obtain ⟨g10, h⟩ := gd_some h
              obtain ⟨g11, h⟩ := gd_some h
              refine W_reg hT ftL_nil [(4, true), (11, true), (16, true)] [] [2] [] (s' := ⟨[(2, .c (.s (.b (!(decide ((128 : UInt8) ≤ (l0.getD 1 0)))))))], [], []⟩) (by kernel_rfl) (allP_cons.2 ⟨g1, (allP_cons.2 ⟨g2, (allP_cons.2 ⟨g3, (allP_cons.2 ⟨g4, (allP_cons.2 ⟨g5, (allP_cons.2 ⟨g6, (allP_cons.2 ⟨g7, (allP_cons.2 ⟨g8, (allP_cons.2 ⟨g9, (allP_cons.2 ⟨g10, (allP_cons.2 ⟨g11, allP_nil⟩)⟩)⟩)⟩)⟩)⟩)⟩)⟩)⟩)⟩)⟩) ?_
              refine W_co [] [2] [] (s' := (rNumber_R (!(decide ((128 : UInt8) ≤ (l0.getD 1 0)))))) (by kernel_rfl) (W_ret ?_)
              exact ⟨.inl rfl, by cases h; rfl⟩
            · replace h := bif_f h g9
              refine W_reg hT ftL_nil [(4, true), (11, true), (16, false)] [] [2] [] (s' := ⟨[(2, .c (.s (.b true)))], [], []⟩) (by kernel_rfl) (allP_cons.2 ⟨g1, (allP_cons.2 ⟨g2, (allP_cons.2 ⟨g3, (allP_cons.2 ⟨g4, (allP_cons.2 ⟨g5, (allP_cons.2 ⟨g6, (allP_cons.2 ⟨g7, (allP_cons.2 ⟨g8, (allP_cons.2 ⟨g9, allP_nil⟩)⟩)⟩)⟩)⟩)⟩)⟩)⟩)⟩) ?_
              refine W_co [] [2] [] (s' := (rNumber_R true)) (by kernel_rfl) (W_ret ?_)
              exact ⟨.inl rfl, by cases h; rfl⟩
          · replace h := bif_f h g6
            refine W_reg hT ftL_nil [(4, true), (11, false)] [] [2] [] (s' := ⟨[(2, .c (.s (.b false)))], [], []⟩) (by kernel_rfl) (allP_cons.2 ⟨g1, (allP_cons.2 ⟨g2, (allP_cons.2 ⟨g3, (allP_cons.2 ⟨g4, (allP_cons.2 ⟨g5, (allP_cons.2 ⟨g6, allP_nil⟩)⟩)⟩)⟩)⟩)⟩) ?_
            refine W_co [] [2] [] (s' := (rNumber_R false)) (by kernel_rfl) (W_ret ?_)
            exact ⟨.inl rfl, by cases h; rfl⟩
        · replace h := bif_f h g3
          obtain ⟨g12, h⟩ := gd_some h
          obtain ⟨g13, h⟩ := gd_some h
          rcases Bool.eq_false_or_eq_true ((l0.getD 0 0) == 255) with g14 | g14
          · replace h := bif_t h g14
            obtain ⟨g15, h⟩ := gd_some h
            obtain ⟨g16, h⟩ := gd_some h
            refine W_reg hT ftL_nil [(4, false), (16, true)] [] [2] [] (s' := ⟨[(2, .c (.s (.b (!(decide ((128 : UInt8) ≤ (l0.getD 1 0)))))))], [], []⟩) (by kernel_rfl) (allP_cons.2 ⟨g1, (allP_cons.2 ⟨g2, (allP_cons.2 ⟨g3, (allP_cons.2 ⟨g12, (allP_cons.2 ⟨g13, (allP_cons.2 ⟨g14, (allP_cons.2 ⟨g15, (allP_cons.2 ⟨g16, allP_nil⟩)⟩)⟩)⟩)⟩)⟩)⟩)⟩) ?_
            refine W_co [] [2] [] (s' := (rNumber_R (!(decide ((128 : UInt8) ≤ (l0.getD 1 0)))))) (by kernel_rfl) (W_ret ?_)
            exact ⟨.inl rfl, by cases h; rfl⟩
          · replace h := bif_f h g14
            refine W_reg hT ftL_nil [(4, false), (16, false)] [] [2] [] (s' := ⟨[(2, .c (.s (.b true)))], [], []⟩) (by kernel_rfl) (allP_cons.2 ⟨g1, (allP_cons.2 ⟨g2, (allP_cons.2 ⟨g3, (allP_cons.2 ⟨g12, (allP_cons.2 ⟨g13, (allP_cons.2 ⟨g14, allP_nil⟩)⟩)⟩)⟩)⟩)⟩) ?_
            refine W_co [] [2] [] (s' := (rNumber_R true)) (by kernel_rfl) (W_ret ?_)
            exact ⟨.inl rfl, by cases h; rfl⟩
  · rintro e s' ⟨he, rfl⟩
    refine ⟨he, fun a' w' hr => ?_⟩
    exact retS_ok tabO_pb hr (rs := [.tmp 2]) rfl (objs := []) (by kernel_rfl)
def lBigs_R (r : Bool) : S := ⟨[(4, .c (.s (.b r)))], [], []⟩
def lBigs_ct (n : Nat) (r : Bool) : Ct := fun args H => match args with
  | [x0, x1] => (match aW H x0 with | some l0 => (match aB H x1 with | some l1 => some ([lBigs n l0 l1 = some r], shA H.length (.c (.s (.b r))), shH H.length []) | none => none) | none => none)
  | _ => none
theorem lBigs_ok (n : Nat) (r : Bool) : FnOk Try.prog Tr 10 (lBigs_ct n r) := by
  refine ⟨fun args H g av objs hF hg ρ w vals hG hp ha => ?_, _, Try.func10, by kernel_rfl, by kernel_rfl⟩
  obtain ⟨x0, x1, rfl⟩ : ∃ x0 x1, args = [x0, x1] := by
    unfold lBigs_ct at hF; split at hF
    · exact ⟨_, _, rfl⟩
    · cases hF
  cases e0 : aW H x0 with
  | none => simp only [lBigs_ct, e0, reduceCtorEq] at hF
  | some l0 =>
  cases e1 : aB H x1 with
  | none => simp only [lBigs_ct, e0, e1, reduceCtorEq] at hF
  | some l1 =>
  simp only [lBigs_ct, e0, e1, Option.some.injEq, Prod.mk.injEq] at hF
  obtain ⟨rfl, rfl, rfl⟩ := hF
  obtain ⟨v0, vals, rfl, k0, ha⟩ := F2.inv ha
  obtain ⟨v1, vals, rfl, k1, ha⟩ := F2.inv ha
  obtain rfl := F2.inv0 ha
  have hI : ∀ w', Kp (noB (fun _ => undef)) w w' → Tr w' := fun _ hk => Tr.keep hk.below hG
  have h : lBigs n l0 l1 = some r := hg
  obtain ⟨p0, s0, o0⟩ := aW_ok hp e0 (k0) 89
  obtain ⟨p1, s1, o1⟩ := aB_ok hp e1 (k1) 5
  have hR0 := rel0 (gv := (fun _ => undef)) (n := 109) (w := w) (args := [.c (.wh 0), .c (.wh 1)]) (H := [⟨.ro false, 89, 1, l0.length, .w l0⟩, ⟨.ro false, 5, 1, l1.length, .b l1⟩]) (gl := []) (hpL (ps := [p0, p1]) (F2.cons o0 (F2.cons o1 F2.nil))) (allRo_ok rfl) (F2.cons s0 (F2.cons s1 F2.nil)) GlR.nil (by simp)
  clear ha hp hg k0 k1 e0 e1
  refine calls_W Try.func10 rfl rfl hR0 (Q := fun e s => (e = .ret ∨ e = .normal) ∧ s = lBigs_R r) ?_ ?_
  · clear hR0
    unfold lBigs at h
    have hT := tabO_pb
    refine W_seq ?_
    refine W_reg hT ftL_nil [] [] [0, 1] [0, 1] (s' := ⟨[(0, .c (.wh 0)), (1, .c (.wh 1))], [], [⟨(.ro false), 89, 1, l0.length, .w l0⟩, ⟨(.ro false), 5, 1, l1.length, .b l1⟩]⟩) (by kernel_rfl) allP_nil ?_
    refine W_seq ?_
    obtain ⟨r13, g1, h⟩ := bind_some' h
    refine W_reg hT (ftL_cons (k := 0) (f := 14) (F := (pup_ct n r13)) (pup_ok n r13) (fun _ _ => True.intro) ftL_nil) [] [] [0, 1, 5] [0, 1] (s' := ⟨[(0, .c (.wh 0)), (1, .c (.wh 1)), (5, .c (.s (.b r13)))], [], [⟨(.ro false), 89, 1, l0.length, .w l0⟩, ⟨(.ro false), 5, 1, l1.length, .b l1⟩]⟩) (by kernel_rfl) (allP_cons.2 ⟨g1, allP_nil⟩) ?_
    refine W_seq ?_
    refine W_seq ?_
    rcases Bool.eq_false_or_eq_true (decide ((100 : Int) < ((l0.length : Nat) : Int))) with g2 | g2
    · replace h := bif_t h g2
      refine W_reg hT ftL_nil [(3, true)] [] [0, 1, 5, 21] [0, 1] (s' := ⟨[(0, .c (.wh 0)), (1, .c (.wh 1)), (5, .c (.s (.b r13))), (21, .c (.s (.b true)))], [], [⟨(.ro false), 89, 1, l0.length, .w l0⟩, ⟨(.ro false), 5, 1, l1.length, .b l1⟩]⟩) (by kernel_rfl) (allP_cons.2 ⟨g2, allP_nil⟩) ?_
      refine W_cond (b := true) (by kernel_rfl) (fun _ => ?_) (fun hb => by cases hb)
      refine W_seq ?_
      refine W_reg hT ftL_nil [] [] [4] [] (s' := ⟨[(4, .c (.s (.b r13)))], [], []⟩) (by kernel_rfl) allP_nil ?_
      refine W_co [] [4] [] (s' := (lBigs_R r13)) (by kernel_rfl) (W_ret ?_)
      exact ⟨.inl rfl, by cases h; rfl⟩
    · replace h := bif_f h g2
      refine W_reg hT ftL_nil [(3, false)] [] [0, 1, 5, 21] [0, 1] (s' := ⟨[(0, .c (.wh 0)), (1, .c (.wh 1)), (5, .c (.s (.b r13))), (21, .c (.s (.b (decide ((600 : Int) < ((l1.length : Nat) : Int))))))], [], [⟨(.ro false), 89, 1, l0.length, .w l0⟩, ⟨(.ro false), 5, 1, l1.length, .b l1⟩]⟩) (by kernel_rfl) (allP_cons.2 ⟨g2, allP_nil⟩) ?_
      refine W_cond (b := (decide ((600 : Int) < ((l1.length : Nat) : Int)))) (by kernel_rfl) (fun g101 => ?_) (fun g101 => ?_)
      · replace h := bif_t h g101
        refine W_seq ?_
        refine W_reg hT ftL_nil [] [] [4] [] (s' := ⟨[(4, .c (.s (.b r13)))], [], []⟩) (by kernel_rfl) allP_nil ?_
        refine W_co [] [4] [] (s' := (lBigs_R r13)) (by kernel_rfl) (W_ret ?_)
        exact ⟨.inl rfl, by cases h; rfl⟩
      · replace h := bif_f h g101
        refine W_co [] [0, 1, 5] [0, 1] (s' := ⟨[(0, .c (.wh 0)), (1, .c (.wh 1)), (5, .c (.s (.b r13)))], [], [⟨(.ro false), 89, 1, l0.length, .w l0⟩, ⟨(.ro false), 5, 1, l1.length, .b l1⟩]⟩) (by kernel_rfl) (W_skip ?_)
        refine W_seq ?_
        obtain ⟨r25, g3, h⟩ := bind_some' h
        refine W_reg hT (ftL_cons (k := 1) (f := 38) (F := (pBig_ct n r25)) (pBig_ok n r25) (fun _ _ => True.intro) ftL_nil) [] [] [0, 1, 5, 6, 7] [0, 1, 2] (s' := ⟨[(0, .c (.wh 0)), (1, .c (.wh 1)), (5, .c (.s (.b r13))), (6, .c (.wh 2)), (7, .c (.s (.er 31 .i64 r25.2)))], [], [⟨(.ro false), 89, 1, l0.length, .w l0⟩, ⟨(.ro false), 5, 1, l1.length, .b l1⟩, ⟨.row, 5, 1, r25.1.length, .b r25.1⟩]⟩) (by kernel_rfl) (allP_cons.2 ⟨g3, allP_nil⟩) ?_
        refine W_seq ?_
        obtain ⟨r29, g4, h⟩ := bind_some' h
        refine W_reg hT (ftL_cons (k := 1) (f := 39) (F := (rMay_ct n r29)) (rMay_ok n r29) (fun _ _ => True.intro) ftL_nil) [] [] [0, 1, 5, 6, 7, 8] [0, 1, 2] (s' := ⟨[(0, .c (.wh 0)), (1, .c (.wh 1)), (5, .c (.s (.b r13))), (6, .c (.wh 2)), (7, .c (.s (.er 31 .i64 r25.2))), (8, .c (.s (.b r29)))], [], [⟨(.ro false), 89, 1, l0.length, .w l0⟩, ⟨(.ro false), 5, 1, l1.length, .b l1⟩, ⟨.row, 5, 1, r25.1.length, .b r25.1⟩]⟩) (by kernel_rfl) (allP_cons.2 ⟨g4, allP_nil⟩) ?_
        refine W_seq ?_
        refine W_seq ?_
        rcases Bool.eq_false_or_eq_true (!r29) with g5 | g5
        · replace h := bif_t h g5
          obtain ⟨g6, h⟩ := gd_some h
          rcases Bool.eq_false_or_eq_true (!(r25.2 == (some 4))) with g7 | g7
          · replace h := bif_t h g7
            refine W_regD hT ftL_nil (by kernel_rfl) 25 [(2, true), (6, true)] [(1, false), (5, false), (42, false), (44, false), (54, false)] [] [1, 5, 56] [1] (s' := ⟨[(1, .c (.wh 0)), (5, .c (.s (.b r13))), (56, .c (.s (.b true)))], [], [⟨(.ro false), 5, 1, l1.length, .b l1⟩]⟩) (by kernel_rfl) (by kernel_rfl) (allP_cons.2 ⟨g5, (allP_cons.2 ⟨g6, (allP_cons.2 ⟨g7, allP_nil⟩)⟩)⟩) ?_
            refine W_cond (b := true) (by kernel_rfl) (fun _ => ?_) (fun hb => by cases hb)
            refine W_seq ?_
            refine W_reg hT ftL_nil [] [] [4] [] (s' := ⟨[(4, .c (.s (.b false)))], [], []⟩) (by kernel_rfl) allP_nil ?_
            refine W_co [] [4] [] (s' := (lBigs_R false)) (by kernel_rfl) (W_ret ?_)
            exact ⟨.inl rfl, by cases h; rfl⟩
          · replace h := bif_f h g7
            rcases Bool.eq_false_or_eq_true (((r25.1.length : Nat) : Int) != 0) with g8 | g8
            · replace h := bif_t h g8
              refine W_regD hT ftL_nil (by kernel_rfl) 25 [(2, true), (6, false), (12, true)] [(1, false), (5, false), (42, false), (44, false), (54, false)] [] [1, 5, 56] [1] (s' := ⟨[(1, .c (.wh 0)), (5, .c (.s (.b r13))), (56, .c (.s (.b true)))], [], [⟨(.ro false), 5, 1, l1.length, .b l1⟩]⟩) (by kernel_rfl) (by kernel_rfl) (allP_cons.2 ⟨g5, (allP_cons.2 ⟨g6, (allP_cons.2 ⟨g7, (allP_cons.2 ⟨g8, allP_nil⟩)⟩)⟩)⟩) ?_
              refine W_cond (b := true) (by kernel_rfl) (fun _ => ?_) (fun hb => by cases hb)
              refine W_seq ?_
              refine W_reg hT ftL_nil [] [] [4] [] (s' := ⟨[(4, .c (.s (.b false)))], [], []⟩) (by kernel_rfl) allP_nil ?_
              refine W_co [] [4] [] (s' := (lBigs_R false)) (by kernel_rfl) (W_ret ?_)
              exact ⟨.inl rfl, by cases h; rfl⟩
            · replace h := bif_f h g8
              rcases Bool.eq_false_or_eq_true r29 with g9 | g9
              · replace h := bif_t h g9
                rcases Bool.eq_false_or_eq_true (!((r25.2).isNone)) with g10 | g10
                · replace h := bif_t h g10
                  refine W_regD hT ftL_nil (by kernel_rfl) 25 [(2, true), (6, false), (12, false), (14, true), (17, true)] [(1, false), (5, false), (42, false), (44, false), (54, false)] [] [1, 5, 56] [1] (s' := ⟨[(1, .c (.wh 0)), (5, .c (.s (.b r13))), (56, .c (.s (.b true)))], [], [⟨(.ro false), 5, 1, l1.length, .b l1⟩]⟩) (by kernel_rfl) (by kernel_rfl) (allP_cons.2 ⟨g5, (allP_cons.2 ⟨g6, (allP_cons.2 ⟨g7, (allP_cons.2 ⟨g8, (allP_cons.2 ⟨g9, (allP_cons.2 ⟨g10, allP_nil⟩)⟩)⟩)⟩)⟩)⟩) ?_
                  refine W_cond (b := true) (by kernel_rfl) (fun _ => ?_) (fun hb => by cases hb)
                  refine W_seq ?_
                  refine W_reg hT ftL_nil [] [] [4] [] (s' := ⟨[(4, .c (.s (.b false)))], [], []⟩) (by kernel_rfl) allP_nil ?_
                  refine W_co [] [4] [] (s' := (lBigs_R false)) (by kernel_rfl) (W_ret ?_)
                  exact ⟨.inl rfl, by cases h; rfl⟩
                · replace h := bif_f h g10
                  obtain ⟨r51, g11, h⟩ := bind_some' h
                  refine W_regD hT (ftL_cons (k := 21) (f := 40) (F := (rBig_ct n r51)) (rBig_ok n r51) (fun _ _ => True.intro) ftL_nil) (by kernel_rfl) 25 [(2, true), (6, false), (12, false), (14, true), (17, false)] [(1, false), (5, false), (42, false), (44, false), (54, false)] [] [1, 5, 56] [1] (s' := ⟨[(1, .c (.wh 0)), (5, .c (.s (.b r13))), (56, .c (.s (.b (r25.1 != r51.1))))], [], [⟨(.ro false), 5, 1, l1.length, .b l1⟩]⟩) (by kernel_rfl) (by kernel_rfl) (allP_cons.2 ⟨g5, (allP_cons.2 ⟨g6, (allP_cons.2 ⟨g7, (allP_cons.2 ⟨g8, (allP_cons.2 ⟨g9, (allP_cons.2 ⟨g10, (allP_cons.2 ⟨g11, allP_nil⟩)⟩)⟩)⟩)⟩)⟩)⟩) ?_
                  refine W_cond (b := (r25.1 != r51.1)) (by kernel_rfl) (fun g33 => ?_) (fun g33 => ?_)
                  · replace h := bif_t h g33
                    refine W_seq ?_
                    refine W_reg hT ftL_nil [] [] [4] [] (s' := ⟨[(4, .c (.s (.b false)))], [], []⟩) (by kernel_rfl) allP_nil ?_
                    refine W_co [] [4] [] (s' := (lBigs_R false)) (by kernel_rfl) (W_ret ?_)
                    exact ⟨.inl rfl, by cases h; rfl⟩
                  · replace h := bif_f h g33
                    refine W_co [] [1, 5] [0] (s' := ⟨[(1, .c (.wh 0)), (5, .c (.s (.b r13)))], [], [⟨(.ro false), 5, 1, l1.length, .b l1⟩]⟩) (by kernel_rfl) (W_skip ?_)
                    refine W_seq ?_
                    obtain ⟨r59, g12, h⟩ := bind_some' h
                    refine W_reg hT (ftL_cons (k := 1) (f := 41) (F := (pReadBig_ct n r59)) (pReadBig_ok n r59) (fun _ _ => True.intro) ftL_nil) [] [] [1, 5, 9, 10] [0, 1] (s' := ⟨[(1, .c (.wh 0)), (5, .c (.s (.b r13))), (9, .c (.wh 1)), (10, .c (.s (.er 31 .i64 r59.2.2)))], [], [⟨(.ro false), 5, 1, l1.length, .b l1⟩, ⟨.row, 89, 1, r59.2.1, .w r59.1⟩]⟩) (by kernel_rfl) (allP_cons.2 ⟨g12, allP_nil⟩) ?_
                    refine W_seq ?_
                    obtain ⟨r63, g13, h⟩ := bind_some' h
                    refine W_reg hT (ftL_cons (k := 1) (f := 16) (F := (rNumber_ct n r63)) (rNumber_ok n r63) (fun _ _ => True.intro) ftL_nil) [] [] [1, 5, 9, 10, 11] [0, 1] (s' := ⟨[(1, .c (.wh 0)), (5, .c (.s (.b r13))), (9, .c (.wh 1)), (10, .c (.s (.er 31 .i64 r59.2.2))), (11, .c (.s (.b r63)))], [], [⟨(.ro false), 5, 1, l1.length, .b l1⟩, ⟨.row, 89, 1, r59.2.1, .w r59.1⟩]⟩) (by kernel_rfl) (allP_cons.2 ⟨g13, allP_nil⟩) ?_
                    refine W_seq ?_
                    refine W_seq ?_
                    rcases Bool.eq_false_or_eq_true (!r63) with g14 | g14
                    · replace h := bif_t h g14
                      refine W_reg hT ftL_nil [(2, true)] [] [1, 5, 9, 10, 71] [0, 1] (s' := ⟨[(1, .c (.wh 0)), (5, .c (.s (.b r13))), (9, .c (.wh 1)), (10, .c (.s (.er 31 .i64 r59.2.2))), (71, .c (.s (.b true)))], [], [⟨(.ro false), 5, 1, l1.length, .b l1⟩, ⟨.row, 89, 1, r59.2.1, .w r59.1⟩]⟩) (by kernel_rfl) (allP_cons.2 ⟨g14, allP_nil⟩) ?_
                      refine W_cond (b := true) (by kernel_rfl) (fun _ => ?_) (fun hb => by cases hb)
                      refine W_seq ?_
                      rcases Bool.eq_false_or_eq_true r13 with g15 | g15
                      · replace h := bif_t h g15
                        obtain ⟨g16, h⟩ := gd_some h
                        rcases Bool.eq_false_or_eq_true (r59.2.2 == (some 2)) with g17 | g17
                        · replace h := bif_t h g17
                          refine W_reg hT ftL_nil [(1, true), (6, true)] [] [4] [] (s' := ⟨[(4, .c (.s (.b (((r59.2.1 : Nat) : Int) == 0))))], [], []⟩) (by kernel_rfl) (allP_cons.2 ⟨g15, (allP_cons.2 ⟨g16, (allP_cons.2 ⟨g17, allP_nil⟩)⟩)⟩) ?_
                          refine W_co [] [4] [] (s' := (lBigs_R (((r59.2.1 : Nat) : Int) == 0))) (by kernel_rfl) (W_ret ?_)
                          exact ⟨.inl rfl, by cases h; rfl⟩
                        · replace h := bif_f h g17
                          refine W_reg hT ftL_nil [(1, true), (6, false)] [] [4] [] (s' := ⟨[(4, .c (.s (.b false)))], [], []⟩) (by kernel_rfl) (allP_cons.2 ⟨g15, (allP_cons.2 ⟨g16, (allP_cons.2 ⟨g17, allP_nil⟩)⟩)⟩) ?_
                          refine W_co [] [4] [] (s' := (lBigs_R false)) (by kernel_rfl) (W_ret ?_)
                          exact ⟨.inl rfl, by cases h; rfl⟩
                      · replace h := bif_f h g15
                        refine W_reg hT ftL_nil [(1, false)] [] [4] [] (s' := ⟨[(4, .c (.s (.b false)))], [], []⟩) (by kernel_rfl) (allP_cons.2 ⟨g15, allP_nil⟩) ?_
                        refine W_co [] [4] [] (s' := (lBigs_R false)) (by kernel_rfl) (W_ret ?_)
                        exact ⟨.inl rfl, by cases h; rfl⟩
                    · replace h := bif_f h g14
                      obtain ⟨g18, h⟩ := gd_some h
                      obtain ⟨g19, h⟩ := gd_some h
                      refine W_reg hT ftL_nil [(2, false)] [] [1, 5, 9, 10, 71] [0, 1] (s' := ⟨[(1, .c (.wh 0)), (5, .c (.s (.b r13))), (9, .c (.wh 1)), (10, .c (.s (.er 31 .i64 r59.2.2))), (71, .c (.s (.b (decide ((128 : UInt8) ≤ (l1.getD 0 0))))))], [], [⟨(.ro false), 5, 1, l1.length, .b l1⟩, ⟨.row, 89, 1, r59.2.1, .w r59.1⟩]⟩) (by kernel_rfl) (allP_cons.2 ⟨g14, (allP_cons.2 ⟨g18, (allP_cons.2 ⟨g19, allP_nil⟩)⟩)⟩) ?_
                      refine W_cond (b := (decide ((128 : UInt8) ≤ (l1.getD 0 0)))) (by kernel_rfl) (fun g32 => ?_) (fun g32 => ?_)
                      · replace h := bif_t h g32
                        refine W_seq ?_
                        rcases Bool.eq_false_or_eq_true r13 with g20 | g20
                        · replace h := bif_t h g20
                          obtain ⟨g21, h⟩ := gd_some h
                          rcases Bool.eq_false_or_eq_true (r59.2.2 == (some 2)) with g22 | g22
                          · replace h := bif_t h g22
                            refine W_reg hT ftL_nil [(1, true), (6, true)] [] [4] [] (s' := ⟨[(4, .c (.s (.b (((r59.2.1 : Nat) : Int) == 0))))], [], []⟩) (by kernel_rfl) (allP_cons.2 ⟨g20, (allP_cons.2 ⟨g21, (allP_cons.2 ⟨g22, allP_nil⟩)⟩)⟩) ?_
                            refine W_co [] [4] [] (s' := (lBigs_R (((r59.2.1 : Nat) : Int) == 0))) (by kernel_rfl) (W_ret ?_)
                            exact ⟨.inl rfl, by cases h; rfl⟩
                          · replace h := bif_f h g22
                            refine W_reg hT ftL_nil [(1, true), (6, false)] [] [4] [] (s' := ⟨[(4, .c (.s (.b false)))], [], []⟩) (by kernel_rfl) (allP_cons.2 ⟨g20, (allP_cons.2 ⟨g21, (allP_cons.2 ⟨g22, allP_nil⟩)⟩)⟩) ?_
                            refine W_co [] [4] [] (s' := (lBigs_R false)) (by kernel_rfl) (W_ret ?_)
                            exact ⟨.inl rfl, by cases h; rfl⟩
                        · replace h := bif_f h g20
                          refine W_reg hT ftL_nil [(1, false)] [] [4] [] (s' := ⟨[(4, .c (.s (.b false)))], [], []⟩) (by kernel_rfl) (allP_cons.2 ⟨g20, allP_nil⟩) ?_
                          refine W_co [] [4] [] (s' := (lBigs_R false)) (by kernel_rfl) (W_ret ?_)
                          exact ⟨.inl rfl, by cases h; rfl⟩
                      · replace h := bif_f h g32
                        refine W_co [] [1, 5, 9, 10] [0, 1] (s' := ⟨[(1, .c (.wh 0)), (5, .c (.s (.b r13))), (9, .c (.wh 1)), (10, .c (.s (.er 31 .i64 r59.2.2)))], [], [⟨(.ro false), 5, 1, l1.length, .b l1⟩, ⟨.row, 89, 1, r59.2.1, .w r59.1⟩]⟩) (by kernel_rfl) (W_skip ?_)
                        refine W_seq ?_
                        obtain ⟨r84, g23, h⟩ := bind_some' h
                        refine W_reg hT (ftL_cons (k := 1) (f := 42) (F := (rBytes_ct n r84)) (rBytes_ok n r84) (fun _ _ => True.intro) ftL_nil) [] [] [5, 9, 10, 12] [1, 2] (s' := ⟨[(5, .c (.s (.b r13))), (9, .c (.wh 0)), (10, .c (.s (.er 31 .i64 r59.2.2))), (12, .c (.wh 1))], [], [⟨.row, 89, 1, r59.2.1, .w r59.1⟩, ⟨(.ro true), 3, 1, r84.2, .z r84.1⟩]⟩) (by kernel_rfl) (allP_cons.2 ⟨g23, allP_nil⟩) ?_
                        refine W_seq ?_
                        refine W_seq ?_
                        obtain ⟨r86, g24, h⟩ := bind_some' h
                        refine W_reg hT (ftL_cons (k := 1) (f := 43) (F := (rSize_ct n r86)) (rSize_ok n r86) (fun _ _ => True.intro) ftL_nil) [] [] [5, 9, 10, 12, 87] [0, 1] (s' := ⟨[(5, .c (.s (.b r13))), (9, .c (.wh 0)), (10, .c (.s (.er 31 .i64 r59.2.2))), (12, .c (.wh 1)), (87, .c (.s (.b (decide ((256 : Int) < r86)))))], [], [⟨.row, 89, 1, r59.2.1, .w r59.1⟩, ⟨(.ro true), 3, 1, r84.2, .z r84.1⟩]⟩) (by kernel_rfl) (allP_cons.2 ⟨g24, allP_nil⟩) ?_
                        refine W_cond (b := (decide ((256 : Int) < r86))) (by kernel_rfl) (fun g31 => ?_) (fun g31 => ?_)
                        · replace h := bif_t h g31
                          refine W_seq ?_
                          rcases Bool.eq_false_or_eq_true r13 with g25 | g25
                          · replace h := bif_t h g25
                            obtain ⟨g26, h⟩ := gd_some h
                            rcases Bool.eq_false_or_eq_true (r59.2.2 == (some 4)) with g27 | g27
                            · replace h := bif_t h g27
                              refine W_reg hT ftL_nil [(1, true), (6, true)] [] [4] [] (s' := ⟨[(4, .c (.s (.b (((r59.2.1 : Nat) : Int) == 0))))], [], []⟩) (by kernel_rfl) (allP_cons.2 ⟨g25, (allP_cons.2 ⟨g26, (allP_cons.2 ⟨g27, allP_nil⟩)⟩)⟩) ?_
                              refine W_co [] [4] [] (s' := (lBigs_R (((r59.2.1 : Nat) : Int) == 0))) (by kernel_rfl) (W_ret ?_)
                              exact ⟨.inl rfl, by cases h; rfl⟩
                            · replace h := bif_f h g27
                              refine W_reg hT ftL_nil [(1, true), (6, false)] [] [4] [] (s' := ⟨[(4, .c (.s (.b false)))], [], []⟩) (by kernel_rfl) (allP_cons.2 ⟨g25, (allP_cons.2 ⟨g26, (allP_cons.2 ⟨g27, allP_nil⟩)⟩)⟩) ?_
                              refine W_co [] [4] [] (s' := (lBigs_R false)) (by kernel_rfl) (W_ret ?_)
                              exact ⟨.inl rfl, by cases h; rfl⟩
                          · replace h := bif_f h g25
                            refine W_reg hT ftL_nil [(1, false)] [] [4] [] (s' := ⟨[(4, .c (.s (.b false)))], [], []⟩) (by kernel_rfl) (allP_cons.2 ⟨g25, allP_nil⟩) ?_
                            refine W_co [] [4] [] (s' := (lBigs_R false)) (by kernel_rfl) (W_ret ?_)
                            exact ⟨.inl rfl, by cases h; rfl⟩
                        · replace h := bif_f h g31
                          refine W_co [] [5, 9, 10, 12] [0, 1] (s' := ⟨[(5, .c (.s (.b r13))), (9, .c (.wh 0)), (10, .c (.s (.er 31 .i64 r59.2.2))), (12, .c (.wh 1))], [], [⟨.row, 89, 1, r59.2.1, .w r59.1⟩, ⟨(.ro true), 3, 1, r84.2, .z r84.1⟩]⟩) (by kernel_rfl) (W_skip ?_)
                          refine W_seq ?_
                          rcases Bool.eq_false_or_eq_true r13 with g28 | g28
                          · replace h := bif_t h g28
                            rcases Bool.eq_false_or_eq_true ((r59.2.2).isNone) with g29 | g29
                            · replace h := bif_t h g29
                              obtain ⟨r107, g30, h⟩ := bind_some' h
                              refine W_reg hT (ftL_cons (k := 8) (f := 44) (F := (rSame_ct n r107)) (rSame_ok n r107) (fun _ _ => True.intro) ftL_nil) [(1, true), (5, true)] [] [4] [] (s' := ⟨[(4, .c (.s (.b r107)))], [], []⟩) (by kernel_rfl) (allP_cons.2 ⟨g28, (allP_cons.2 ⟨g29, (allP_cons.2 ⟨g30, allP_nil⟩)⟩)⟩) ?_
                              refine W_co [] [4] [] (s' := (lBigs_R r107)) (by kernel_rfl) (W_ret ?_)
                              exact ⟨.inl rfl, by cases h; rfl⟩
                            · replace h := bif_f h g29
                              refine W_reg hT ftL_nil [(1, true), (5, false)] [] [4] [] (s' := ⟨[(4, .c (.s (.b false)))], [], []⟩) (by kernel_rfl) (allP_cons.2 ⟨g28, (allP_cons.2 ⟨g29, allP_nil⟩)⟩) ?_
                              refine W_co [] [4] [] (s' := (lBigs_R false)) (by kernel_rfl) (W_ret ?_)
                              exact ⟨.inl rfl, by cases h; rfl⟩
                          · replace h := bif_f h g28
                            refine W_reg hT ftL_nil [(1, false)] [] [4] [] (s' := ⟨[(4, .c (.s (.b false)))], [], []⟩) (by kernel_rfl) (allP_cons.2 ⟨g28, allP_nil⟩) ?_
                            refine W_co [] [4] [] (s' := (lBigs_R false)) (by kernel_rfl) (W_ret ?_)
                            exact ⟨.inl rfl, by cases h; rfl⟩
              · replace h := bif_f h g9
                refine W_regD hT ftL_nil (by kernel_rfl) 25 [(2, true), (6, false), (12, false), (14, false)] [(1, false), (5, false), (42, false), (44, false), (54, false)] [] [1, 5, 56] [1] (s' := ⟨[(1, .c (.wh 0)), (5, .c (.s (.b r13))), (56, .c (.s (.b false)))], [], [⟨(.ro false), 5, 1, l1.length, .b l1⟩]⟩) (by kernel_rfl) (by kernel_rfl) (allP_cons.2 ⟨g5, (allP_cons.2 ⟨g6, (allP_cons.2 ⟨g7, (allP_cons.2 ⟨g8, (allP_cons.2 ⟨g9, allP_nil⟩)⟩)⟩)⟩)⟩) ?_
                refine W_cond (b := false) (by kernel_rfl) (fun hb => by cases hb) (fun _ => ?_)
                refine W_co [] [1, 5] [0] (s' := ⟨[(1, .c (.wh 0)), (5, .c (.s (.b r13)))], [], [⟨(.ro false), 5, 1, l1.length, .b l1⟩]⟩) (by kernel_rfl) (W_skip ?_)
                refine W_seq ?_
                obtain ⟨r59, g34, h⟩ := bind_some' h
                refine W_reg hT (ftL_cons (k := 1) (f := 41) (F := (pReadBig_ct n r59)) (pReadBig_ok n r59) (fun _ _ => True.intro) ftL_nil) [] [] [1, 5, 9, 10] [0, 1] (s' := ⟨[(1, .c (.wh 0)), (5, .c (.s (.b r13))), (9, .c (.wh 1)), (10, .c (.s (.er 31 .i64 r59.2.2)))], [], [⟨(.ro false), 5, 1, l1.length, .b l1⟩, ⟨.row, 89, 1, r59.2.1, .w r59.1⟩]⟩) (by kernel_rfl) (allP_cons.2 ⟨g34, allP_nil⟩) ?_
                refine W_seq ?_
                obtain ⟨r63, g35, h⟩ := bind_some' h
                refine W_reg hT (ftL_cons (k := 1) (f := 16) (F := (rNumber_ct n r63)) (rNumber_ok n r63) (fun _ _ => True.intro) ftL_nil) [] [] [1, 5, 9, 10, 11] [0, 1] (s' := ⟨[(1, .c (.wh 0)), (5, .c (.s (.b r13))), (9, .c (.wh 1)), (10, .c (.s (.er 31 .i64 r59.2.2))), (11, .c (.s (.b r63)))], [], [⟨(.ro false), 5, 1, l1.length, .b l1⟩, ⟨.row, 89, 1, r59.2.1, .w r59.1⟩]⟩) (by kernel_rfl) (allP_cons.2 ⟨g35, allP_nil⟩) ?_
                refine W_seq ?_
                refine W_seq ?_
                rcases Bool.eq_false_or_eq_true (!r63) with g36 | g36
                · replace h := bif_t h g36
                  refine W_reg hT ftL_nil [(2, true)] [] [1, 5, 9, 10, 71] [0, 1] (s' := ⟨[(1, .c (.wh 0)), (5, .c (.s (.b r13))), (9, .c (.wh 1)), (10, .c (.s (.er 31 .i64 r59.2.2))), (71, .c (.s (.b true)))], [], [⟨(.ro false), 5, 1, l1.length, .b l1⟩, ⟨.row, 89, 1, r59.2.1, .w r59.1⟩]⟩) (by kernel_rfl) (allP_cons.2 ⟨g36, allP_nil⟩) ?_
                  refine W_cond (b := true) (by kernel_rfl) (fun _ => ?_) (fun hb => by cases hb)
                  refine W_seq ?_
                  rcases Bool.eq_false_or_eq_true r13 with g37 | g37
                  · replace h := bif_t h g37
                    obtain ⟨g38, h⟩ := gd_some h
                    rcases Bool.eq_false_or_eq_true (r59.2.2 == (some 2)) with g39 | g39
                    · replace h := bif_t h g39
                      refine W_reg hT ftL_nil [(1, true), (6, true)] [] [4] [] (s' := ⟨[(4, .c (.s (.b (((r59.2.1 : Nat) : Int) == 0))))], [], []⟩) (by kernel_rfl) (allP_cons.2 ⟨g37, (allP_cons.2 ⟨g38, (allP_cons.2 ⟨g39, allP_nil⟩)⟩)⟩) ?_
                      refine W_co [] [4] [] (s' := (lBigs_R (((r59.2.1 : Nat) : Int) == 0))) (by kernel_rfl) (W_ret ?_)
                      exact ⟨.inl rfl, by cases h; rfl⟩
                    · replace h := bif_f h g39
                      refine W_reg hT ftL_nil [(1, true), (6, false)] [] [4] [] (s' := ⟨[(4, .c (.s (.b false)))], [], []⟩) (by kernel_rfl) (allP_cons.2 ⟨g37, (allP_cons.2 ⟨g38, (allP_cons.2 ⟨g39, allP_nil⟩)⟩)⟩) ?_
                      refine W_co [] [4] [] (s' := (lBigs_R false)) (by kernel_rfl) (W_ret ?_)
                      exact ⟨.inl rfl, by cases h; rfl⟩
                  · replace h := bif_f h g37
                    refine W_reg hT ftL_nil [(1, false)] [] [4] [] (s' := ⟨[(4, .c (.s (.b false)))], [], []⟩) (by kernel_rfl) (allP_cons.2 ⟨g37, allP_nil⟩) ?_
                    refine W_co [] [4] [] (s' := (lBigs_R false)) (by kernel_rfl) (W_ret ?_)
                    exact ⟨.inl rfl, by cases h; rfl⟩
                · replace h := bif_f h g36
                  obtain ⟨g40, h⟩ := gd_some h
                  obtain ⟨g41, h⟩ := gd_some h
                  refine W_reg hT ftL_nil [(2, false)] [] [1, 5, 9, 10, 71] [0, 1] (s' := ⟨[(1, .c (.wh 0)), (5, .c (.s (.b r13))), (9, .c (.wh 1)), (10, .c (.s (.er 31 .i64 r59.2.2))), (71, .c (.s (.b (decide ((128 : UInt8) ≤ (l1.getD 0 0))))))], [], [⟨(.ro false), 5, 1, l1.length, .b l1⟩, ⟨.row, 89, 1, r59.2.1, .w r59.1⟩]⟩) (by kernel_rfl) (allP_cons.2 ⟨g36, (allP_cons.2 ⟨g40, (allP_cons.2 ⟨g41, allP_nil⟩)⟩)⟩) ?_
                  refine W_cond (b := (decide ((128 : UInt8) ≤ (l1.getD 0 0)))) (by kernel_rfl) (fun g54 => ?_) (fun g54 => ?_)
                  · replace h := bif_t h g54
                    refine W_seq ?_
                    rcases Bool.eq_false_or_eq_true r13 with g42 | g42
                    · replace h := bif_t h g42
                      obtain ⟨g43, h⟩ := gd_some h
                      rcases Bool.eq_false_or_eq_true (r59.2.2 == (some 2)) with g44 | g44
                      · replace h := bif_t h g44
                        refine W_reg hT ftL_nil [(1, true), (6, true)] [] [4] [] (s' := ⟨[(4, .c (.s (.b (((r59.2.1 : Nat) : Int) == 0))))], [], []⟩) (by kernel_rfl) (allP_cons.2 ⟨g42, (allP_cons.2 ⟨g43, (allP_cons.2 ⟨g44, allP_nil⟩)⟩)⟩) ?_
                        refine W_co [] [4] [] (s' := (lBigs_R (((r59.2.1 : Nat) : Int) == 0))) (by kernel_rfl) (W_ret ?_)
                        exact ⟨.inl rfl, by cases h; rfl⟩
                      · replace h := bif_f h g44
                        refine W_reg hT ftL_nil [(1, true), (6, false)] [] [4] [] (s' := ⟨[(4, .c (.s (.b false)))], [], []⟩) (by kernel_rfl) (allP_cons.2 ⟨g42, (allP_cons.2 ⟨g43, (allP_cons.2 ⟨g44, allP_nil⟩)⟩)⟩) ?_
                        refine W_co [] [4] [] (s' := (lBigs_R false)) (by kernel_rfl) (W_ret ?_)
                        exact ⟨.inl rfl, by cases h; rfl⟩
                    · replace h := bif_f h g42
                      refine W_reg hT ftL_nil [(1, false)] [] [4] [] (s' := ⟨[(4, .c (.s (.b false)))], [], []⟩) (by kernel_rfl) (allP_cons.2 ⟨g42, allP_nil⟩) ?_
                      refine W_co [] [4] [] (s' := (lBigs_R false)) (by kernel_rfl) (W_ret ?_)
                      exact ⟨.inl rfl, by cases h; rfl⟩
                  · replace h := bif_f h g54
                    refine W_co [] [1, 5, 9, 10] [0, 1] (s' := ⟨[(1, .c (.wh 0)), (5, .c (.s (.b r13))), (9, .c (.wh 1)), (10, .c (.s (.er 31 .i64 r59.2.2)))], [], [⟨(.ro false), 5, 1, l1.length, .b l1⟩, ⟨.row, 89, 1, r59.2.1, .w r59.1⟩]⟩) (by kernel_rfl) (W_skip ?_)
                    refine W_seq ?_
                    obtain ⟨r84, g45, h⟩ := bind_some' h
                    refine W_reg hT (ftL_cons (k := 1) (f := 42) (F := (rBytes_ct n r84)) (rBytes_ok n r84) (fun _ _ => True.intro) ftL_nil) [] [] [5, 9, 10, 12] [1, 2] (s' := ⟨[(5, .c (.s (.b r13))), (9, .c (.wh 0)), (10, .c (.s (.er 31 .i64 r59.2.2))), (12, .c (.wh 1))], [], [⟨.row, 89, 1, r59.2.1, .w r59.1⟩, ⟨(.ro true), 3, 1, r84.2, .z r84.1⟩]⟩) (by kernel_rfl) (allP_cons.2 ⟨g45, allP_nil⟩) ?_
                    refine W_seq ?_
                    refine W_seq ?_
                    obtain ⟨r86, g46, h⟩ := bind_some' h
                    refine W_reg hT (ftL_cons (k := 1) (f := 43) (F := (rSize_ct n r86)) (rSize_ok n r86) (fun _ _ => True.intro) ftL_nil) [] [] [5, 9, 10, 12, 87] [0, 1] (s' := ⟨[(5, .c (.s (.b r13))), (9, .c (.wh 0)), (10, .c (.s (.er 31 .i64 r59.2.2))), (12, .c (.wh 1)), (87, .c (.s (.b (decide ((256 : Int) < r86)))))], [], [⟨.row, 89, 1, r59.2.1, .w r59.1⟩, ⟨(.ro true), 3, 1, r84.2, .z r84.1⟩]⟩) (by kernel_rfl) (allP_cons.2 ⟨g46, allP_nil⟩) ?_
                    refine W_cond (b := (decide ((256 : Int) < r86))) (by kernel_rfl) (fun g53 => ?_) (fun g53 => ?_)
                    · replace h := bif_t h g53
                      refine W_seq ?_
                      rcases Bool.eq_false_or_eq_true r13 with g47 | g47
                      · replace h := bif_t h g47
                        obtain ⟨g48, h⟩ := gd_some h
                        rcases Bool.eq_false_or_eq_true (r59.2.2 == (some 4)) with g49 | g49
                        · replace h := bif_t h g49
                          refine W_reg hT ftL_nil [(1, true), (6, true)] [] [4] [] (s' := ⟨[(4, .c (.s (.b (((r59.2.1 : Nat) : Int) == 0))))], [], []⟩) (by kernel_rfl) (allP_cons.2 ⟨g47, (allP_cons.2 ⟨g48, (allP_cons.2 ⟨g49, allP_nil⟩)⟩)⟩) ?_
                          refine W_co [] [4] [] (s' := (lBigs_R (((r59.2.1 : Nat) : Int) == 0))) (by kernel_rfl) (W_ret ?_)
                          exact ⟨.inl rfl, by cases h; rfl⟩
                        · replace h := bif_f h g49
                          refine W_reg hT ftL_nil [(1, true), (6, false)] [] [4] [] (s' := ⟨[(4, .c (.s (.b false)))], [], []⟩) (by kernel_rfl) (allP_cons.2 ⟨g47, (allP_cons.2 ⟨g48, (allP_cons.2 ⟨g49, allP_nil⟩)⟩)⟩) ?_
                          refine W_co [] [4] [] (s' := (lBigs_R false)) (by kernel_rfl) (W_ret ?_)
                          exact ⟨.inl rfl, by cases h; rfl⟩
                      · replace h := bif_f h g47
                        refine W_reg hT ftL_nil [(1, false)] [] [4] [] (s' := ⟨[(4, .c (.s (.b false)))], [], []⟩) (by kernel_rfl) (allP_cons.2 ⟨g47, allP_nil⟩) ?_
                        refine W_co [] [4] [] (s' := (lBigs_R false)) (by kernel_rfl) (W_ret ?_)
                        exact ⟨.inl rfl, by cases h; rfl⟩
                    · replace h := bif_f h g53
                      refine W_co [] [5, 9, 10, 12] [0, 1] (s' := ⟨[(5, .c (.s (.b r13))), (9, .c (.wh 0)), (10, .c (.s (.er 31 .i64 r59.2.2))), (12, .c (.wh 1))], [], [⟨.row, 89, 1, r59.2.1, .w r59.1⟩, ⟨(.ro true), 3, 1, r84.2, .z r84.1⟩]⟩) (by kernel_rfl) (W_skip ?_)
                      refine W_seq ?_
                      rcases Bool.eq_false_or_eq_true r13 with g50 | g50
                      · replace h := bif_t h g50
                        rcases Bool.eq_false_or_eq_true ((r59.2.2).isNone) with g51 | g51
                        · replace h := bif_t h g51
                          obtain ⟨r107, g52, h⟩ := bind_some' h
                          refine W_reg hT (ftL_cons (k := 8) (f := 44) (F := (rSame_ct n r107)) (rSame_ok n r107) (fun _ _ => True.intro) ftL_nil) [(1, true), (5, true)] [] [4] [] (s' := ⟨[(4, .c (.s (.b r107)))], [], []⟩) (by kernel_rfl) (allP_cons.2 ⟨g50, (allP_cons.2 ⟨g51, (allP_cons.2 ⟨g52, allP_nil⟩)⟩)⟩) ?_
                          refine W_co [] [4] [] (s' := (lBigs_R r107)) (by kernel_rfl) (W_ret ?_)
                          exact ⟨.inl rfl, by cases h; rfl⟩
                        · replace h := bif_f h g51
                          refine W_reg hT ftL_nil [(1, true), (5, false)] [] [4] [] (s' := ⟨[(4, .c (.s (.b false)))], [], []⟩) (by kernel_rfl) (allP_cons.2 ⟨g50, (allP_cons.2 ⟨g51, allP_nil⟩)⟩) ?_
                          refine W_co [] [4] [] (s' := (lBigs_R false)) (by kernel_rfl) (W_ret ?_)
                          exact ⟨.inl rfl, by cases h; rfl⟩
                      · replace h := bif_f h g50
                        refine W_reg hT ftL_nil [(1, false)] [] [4] [] (s' := ⟨[(4, .c (.s (.b false)))], [], []⟩) (by kernel_rfl) (allP_cons.2 ⟨g50, allP_nil⟩) ?_
                        refine W_co [] [4] [] (s' := (lBigs_R false)) (by kernel_rfl) (W_ret ?_)
                        exact ⟨.inl rfl, by cases h; rfl⟩
        · replace h := bif_f h g5
          rcases Bool.eq_false_or_eq_true r29 with g55 | g55
          · replace h := bif_t h g55
            rcases Bool.eq_false_or_eq_true (!((r25.2).isNone)) with g56 | g56
            · replace h := bif_t h g56
              refine W_regD hT ftL_nil (by kernel_rfl) 25 [(2, false), (14, true), (17, true)] [(1, false), (5, false), (42, false), (44, false), (54, false)] [] [1, 5, 56] [1] (s' := ⟨[(1, .c (.wh 0)), (5, .c (.s (.b r13))), (56, .c (.s (.b true)))], [], [⟨(.ro false), 5, 1, l1.length, .b l1⟩]⟩) (by kernel_rfl) (by kernel_rfl) (allP_cons.2 ⟨g5, (allP_cons.2 ⟨g55, (allP_cons.2 ⟨g56, allP_nil⟩)⟩)⟩) ?_
              refine W_cond (b := true) (by kernel_rfl) (fun _ => ?_) (fun hb => by cases hb)
              refine W_seq ?_
              refine W_reg hT ftL_nil [] [] [4] [] (s' := ⟨[(4, .c (.s (.b false)))], [], []⟩) (by kernel_rfl) allP_nil ?_
              refine W_co [] [4] [] (s' := (lBigs_R false)) (by kernel_rfl) (W_ret ?_)
              exact ⟨.inl rfl, by cases h; rfl⟩
            · replace h := bif_f h g56
              obtain ⟨r51, g57, h⟩ := bind_some' h
              refine W_regD hT (ftL_cons (k := 21) (f := 40) (F := (rBig_ct n r51)) (rBig_ok n r51) (fun _ _ => True.intro) ftL_nil) (by kernel_rfl) 25 [(2, false), (14, true), (17, false)] [(1, false), (5, false), (42, false), (44, false), (54, false)] [] [1, 5, 56] [1] (s' := ⟨[(1, .c (.wh 0)), (5, .c (.s (.b r13))), (56, .c (.s (.b (r25.1 != r51.1))))], [], [⟨(.ro false), 5, 1, l1.length, .b l1⟩]⟩) (by kernel_rfl) (by kernel_rfl) (allP_cons.2 ⟨g5, (allP_cons.2 ⟨g55, (allP_cons.2 ⟨g56, (allP_cons.2 ⟨g57, allP_nil⟩)⟩)⟩)⟩) ?_
              refine W_cond (b := (r25.1 != r51.1)) (by kernel_rfl) (fun g79 => ?_) (fun g79 => ?_)
              · replace h := bif_t h g79
                refine W_seq ?_
                refine W_reg hT ftL_nil [] [] [4] [] (s' := ⟨[(4, .c (.s (.b false)))], [], []⟩) (by kernel_rfl) allP_nil ?_
                refine W_co [] [4] [] (s' := (lBigs_R false)) (by kernel_rfl) (W_ret ?_)
                exact ⟨.inl rfl, by cases h; rfl⟩
              · replace h := bif_f h g79
                refine W_co [] [1, 5] [0] (s' := ⟨[(1, .c (.wh 0)), (5, .c (.s (.b r13)))], [], [⟨(.ro false), 5, 1, l1.length, .b l1⟩]⟩) (by kernel_rfl) (W_skip ?_)
                refine W_seq ?_
                obtain ⟨r59, g58, h⟩ := bind_some' h
                refine W_reg hT (ftL_cons (k := 1) (f := 41) (F := (pReadBig_ct n r59)) (pReadBig_ok n r59) (fun _ _ => True.intro) ftL_nil) [] [] [1, 5, 9, 10] [0, 1] (s' := ⟨[(1, .c (.wh 0)), (5, .c (.s (.b r13))), (9, .c (.wh 1)), (10, .c (.s (.er 31 .i64 r59.2.2)))], [], [⟨(.ro false), 5, 1, l1.length, .b l1⟩, ⟨.row, 89, 1, r59.2.1, .w r59.1⟩]⟩) (by kernel_rfl) (allP_cons.2 ⟨g58, allP_nil⟩) ?_
                refine W_seq ?_
                obtain ⟨r63, g59, h⟩ := bind_some' h
                refine W_reg hT (ftL_cons (k := 1) (f := 16) (F := (rNumber_ct n r63)) (rNumber_ok n r63) (fun _ _ => True.intro) ftL_nil) [] [] [1, 5, 9, 10, 11] [0, 1] (s' := ⟨[(1, .c (.wh 0)), (5, .c (.s (.b r13))), (9, .c (.wh 1)), (10, .c (.s (.er 31 .i64 r59.2.2))), (11, .c (.s (.b r63)))], [], [⟨(.ro false), 5, 1, l1.length, .b l1⟩, ⟨.row, 89, 1, r59.2.1, .w r59.1⟩]⟩) (by kernel_rfl) (allP_cons.2 ⟨g59, allP_nil⟩) ?_
                refine W_seq ?_
                refine W_seq ?_
                rcases Bool.eq_false_or_eq_true (!r63) with g60 | g60
                · replace h := bif_t h g60
                  refine W_reg hT ftL_nil [(2, true)] [] [1, 5, 9, 10, 71] [0, 1] (s' := ⟨[(1, .c (.wh 0)), (5, .c (.s (.b r13))), (9, .c (.wh 1)), (10, .c (.s (.er 31 .i64 r59.2.2))), (71, .c (.s (.b true)))], [], [⟨(.ro false), 5, 1, l1.length, .b l1⟩, ⟨.row, 89, 1, r59.2.1, .w r59.1⟩]⟩) (by kernel_rfl) (allP_cons.2 ⟨g60, allP_nil⟩) ?_
                  refine W_cond (b := true) (by kernel_rfl) (fun _ => ?_) (fun hb => by cases hb)
                  refine W_seq ?_
                  rcases Bool.eq_false_or_eq_true r13 with g61 | g61
                  · replace h := bif_t h g61
                    obtain ⟨g62, h⟩ := gd_some h
                    rcases Bool.eq_false_or_eq_true (r59.2.2 == (some 2)) with g63 | g63
                    · replace h := bif_t h g63
                      refine W_reg hT ftL_nil [(1, true), (6, true)] [] [4] [] (s' := ⟨[(4, .c (.s (.b (((r59.2.1 : Nat) : Int) == 0))))], [], []⟩) (by kernel_rfl) (allP_cons.2 ⟨g61, (allP_cons.2 ⟨g62, (allP_cons.2 ⟨g63, allP_nil⟩)⟩)⟩) ?_
                      refine W_co [] [4] [] (s' := (lBigs_R (((r59.2.1 : Nat) : Int) == 0))) (by kernel_rfl) (W_ret ?_)
                      exact ⟨.inl rfl, by cases h; rfl⟩
                    · replace h := bif_f h g63
                      refine W_reg hT ftL_nil [(1, true), (6, false)] [] [4] [] (s' := ⟨[(4, .c (.s (.b false)))], [], []⟩) (by kernel_rfl) (allP_cons.2 ⟨g61, (allP_cons.2 ⟨g62, (allP_cons.2 ⟨g63, allP_nil⟩)⟩)⟩) ?_
                      refine W_co [] [4] [] (s' := (lBigs_R false)) (by kernel_rfl) (W_ret ?_)
                      exact ⟨.inl rfl, by cases h; rfl⟩
                  · replace h := bif_f h g61
                    refine W_reg hT ftL_nil [(1, false)] [] [4] [] (s' := ⟨[(4, .c (.s (.b false)))], [], []⟩) (by kernel_rfl) (allP_cons.2 ⟨g61, allP_nil⟩) ?_
                    refine W_co [] [4] [] (s' := (lBigs_R false)) (by kernel_rfl) (W_ret ?_)
                    exact ⟨.inl rfl, by cases h; rfl⟩
                · replace h := bif_f h g60
                  obtain ⟨g64, h⟩ := gd_some h
                  obtain ⟨g65, h⟩ := gd_some h
                  refine W_reg hT ftL_nil [(2, false)] [] [1, 5, 9, 10, 71] [0, 1] (s' := ⟨[(1, .c (.wh 0)), (5, .c (.s (.b r13))), (9, .c (.wh 1)), (10, .c (.s (.er 31 .i64 r59.2.2))), (71, .c (.s (.b (decide ((128 : UInt8) ≤ (l1.getD 0 0))))))], [], [⟨(.ro false), 5, 1, l1.length, .b l1⟩, ⟨.row, 89, 1, r59.2.1, .w r59.1⟩]⟩) (by kernel_rfl) (allP_cons.2 ⟨g60, (allP_cons.2 ⟨g64, (allP_cons.2 ⟨g65, allP_nil⟩)⟩)⟩) ?_
                  refine W_cond (b := (decide ((128 : UInt8) ≤ (l1.getD 0 0)))) (by kernel_rfl) (fun g78 => ?_) (fun g78 => ?_)
                  · replace h := bif_t h g78
                    refine W_seq ?_
                    rcases Bool.eq_false_or_eq_true r13 with g66 | g66
                    · replace h := bif_t h g66
                      obtain ⟨g67, h⟩ := gd_some h
                      rcases Bool.eq_false_or_eq_true (r59.2.2 == (some 2)) with g68 | g68
                      · replace h := bif_t h g68
                        refine W_reg hT ftL_nil [(1, true), (6, true)] [] [4] [] (s' := ⟨[(4, .c (.s (.b (((r59.2.1 : Nat) : Int) == 0))))], [], []⟩) (by kernel_rfl) (allP_cons.2 ⟨g66, (allP_cons.2 ⟨g67, (allP_cons.2 ⟨g68, allP_nil⟩)⟩)⟩) ?_
                        refine W_co [] [4] [] (s' := (lBigs_R (((r59.2.1 : Nat) : Int) == 0))) (by kernel_rfl) (W_ret ?_)
                        exact ⟨.inl rfl, by cases h; rfl⟩
                      · replace h := bif_f h g68
                        refine W_reg hT ftL_nil [(1, true), (6, false)] [] [4] [] (s' := ⟨[(4, .c (.s (.b false)))], [], []⟩) (by kernel_rfl) (allP_cons.2 ⟨g66, (allP_cons.2 ⟨g67, (allP_cons.2 ⟨g68, allP_nil⟩)⟩)⟩) ?_
                        refine W_co [] [4] [] (s' := (lBigs_R false)) (by kernel_rfl) (W_ret ?_)
                        exact ⟨.inl rfl, by cases h; rfl⟩
                    · replace h := bif_f h g66
                      refine W_reg hT ftL_nil [(1, false)] [] [4] [] (s' := ⟨[(4, .c (.s (.b false)))], [], []⟩) (by kernel_rfl) (allP_cons.2 ⟨g66, allP_nil⟩) ?_
                      refine W_co [] [4] [] (s' := (lBigs_R false)) (by kernel_rfl) (W_ret ?_)
                      exact ⟨.inl rfl, by cases h; rfl⟩
                  · replace h := bif_f h g78
                    refine W_co [] [1, 5, 9, 10] [0, 1] (s' := ⟨[(1, .c (.wh 0)), (5, .c (.s (.b r13))), (9, .c (.wh 1)), (10, .c (.s (.er 31 .i64 r59.2.2)))], [], [⟨(.ro false), 5, 1, l1.length, .b l1⟩, ⟨.row, 89, 1, r59.2.1, .w r59.1⟩]⟩) (by kernel_rfl) (W_skip ?_)
                    refine W_seq ?_
                    obtain ⟨r84, g69, h⟩ := bind_some' h
                    refine W_reg hT (ftL_cons (k := 1) (f := 42) (F := (rBytes_ct n r84)) (rBytes_ok n r84) (fun _ _ => True.intro) ftL_nil) [] [] [5, 9, 10, 12] [1, 2] (s' := ⟨[(5, .c (.s (.b r13))), (9, .c (.wh 0)), (10, .c (.s (.er 31 .i64 r59.2.2))), (12, .c (.wh 1))], [], [⟨.row, 89, 1, r59.2.1, .w r59.1⟩, ⟨(.ro true), 3, 1, r84.2, .z r84.1⟩]⟩) (by kernel_rfl) (allP_cons.2 ⟨g69, allP_nil⟩) ?_
                    refine W_seq ?_
                    refine W_seq ?_
                    obtain ⟨r86, g70, h⟩ := bind_some' h
                    refine W_reg hT (ftL_cons (k := 1) (f := 43) (F := (rSize_ct n r86)) (rSize_ok n r86) (fun _ _ => True.intro) ftL_nil) [] [] [5, 9, 10, 12, 87] [0, 1] (s' := ⟨[(5, .c (.s (.b r13))), (9, .c (.wh 0)), (10, .c (.s (.er 31 .i64 r59.2.2))), (12, .c (.wh 1)), (87, .c (.s (.b (decide ((256 : Int) < r86)))))], [], [⟨.row, 89, 1, r59.2.1, .w r59.1⟩, ⟨(.ro true), 3, 1, r84.2, .z r84.1⟩]⟩) (by kernel_rfl) (allP_cons.2 ⟨g70, allP_nil⟩) ?_
                    refine W_cond (b := (decide ((256 : Int) < r86))) (by kernel_rfl) (fun g77 => ?_) (fun g77 => ?_)
                    · replace h := bif_t h g77
                      refine W_seq ?_
                      rcases Bool.eq_false_or_eq_true r13 with g71 | g71
                      · replace h := bif_t h g71
                        obtain ⟨g72, h⟩ := gd_some h
                        rcases Bool.eq_false_or_eq_true (r59.2.2 == (some 4)) with g73 | g73
                        · replace h := bif_t h g73
                          refine W_reg hT ftL_nil [(1, true), (6, true)] [] [4] [] (s' := ⟨[(4, .c (.s (.b (((r59.2.1 : Nat) : Int) == 0))))], [], []⟩) (by kernel_rfl) (allP_cons.2 ⟨g71, (allP_cons.2 ⟨g72, (allP_cons.2 ⟨g73, allP_nil⟩)⟩)⟩) ?_
                          refine W_co [] [4] [] (s' := (lBigs_R (((r59.2.1 : Nat) : Int) == 0))) (by kernel_rfl) (W_ret ?_)
                          exact ⟨.inl rfl, by cases h; rfl⟩
                        · replace h := bif_f h g73
                          refine W_reg hT ftL_nil [(1, true), (6, false)] [] [4] [] (s' := ⟨[(4, .c (.s (.b false)))], [], []⟩) (by kernel_rfl) (allP_cons.2 ⟨g71, (allP_cons.2 ⟨g72, (allP_cons.2 ⟨g73, allP_nil⟩)⟩)⟩) ?_
                          refine W_co [] [4] [] (s' := (lBigs_R false)) (by kernel_rfl) (W_ret ?_)
                          exact ⟨.inl rfl, by cases h; rfl⟩
                      · replace h := bif_f h g71
                        refine W_reg hT ftL_nil [(1, false)] [] [4] [] (s' := ⟨[(4, .c (.s (.b false)))], [], []⟩) (by kernel_rfl) (allP_cons.2 ⟨g71, allP_nil⟩) ?_
                        refine W_co [] [4] [] (s' := (lBigs_R false)) (by kernel_rfl) (W_ret ?_)
                        exact ⟨.inl rfl, by cases h; rfl⟩
                    · replace h := bif_f h g77
                      refine W_co [] [5, 9, 10, 12] [0, 1] (s' := ⟨[(5, .c (.s (.b r13))), (9, .c (.wh 0)), (10, .c (.s (.er 31 .i64 r59.2.2))), (12, .c (.wh 1))], [], [⟨.row, 89, 1, r59.2.1, .w r59.1⟩, ⟨(.ro true), 3, 1, r84.2, .z r84.1⟩]⟩) (by kernel_rfl) (W_skip ?_)
                      refine W_seq ?_
                      rcases Bool.eq_false_or_eq_true r13 with g74 | g74
                      · replace h := bif_t h g74
                        rcases Bool.eq_false_or_eq_true ((r59.2.2).isNone) with g75 | g75
                        · replace h := bif_t h g75
                          obtain ⟨r107, g76, h⟩ := bind_some' h
                          refine W_reg hT (ftL_cons (k := 8) (f := 44) (F := (rSame_ct n r107)) (rSame_ok n r107) (fun _ _ => True.intro) ftL_nil) [(1, true), (5, true)] [] [4] [] (s' := ⟨[(4, .c (.s (.b r107)))], [], []⟩) (by kernel_rfl) (allP_cons.2 ⟨g74, (allP_cons.2 ⟨g75, (allP_cons.2 ⟨g76, allP_nil⟩)⟩)⟩) ?_
                          refine W_co [] [4] [] (s' := (lBigs_R r107)) (by kernel_rfl) (W_ret ?_)
                          exact ⟨.inl rfl, by cases h; rfl⟩
                        · replace h := bif_f h g75
                          refine W_reg hT ftL_nil [(1, true), (5, false)] [] [4] [] (s' := ⟨[(4, .c (.s (.b false)))], [], []⟩) (by kernel_rfl) (allP_cons.2 ⟨g74, (allP_cons.2 ⟨g75, allP_nil⟩)⟩) ?_
                          refine W_co [] [4] [] (s' := (lBigs_R false)) (by kernel_rfl) (W_ret ?_)
                          exact ⟨.inl rfl, by cases h; rfl⟩
                      · replace h := bif_f h g74
                        refine W_reg hT ftL_nil [(1, false)] [] [4] [] (s' := ⟨[(4, .c (.s (.b false)))], [], []⟩) (by kernel_rfl) (allP_cons.2 ⟨g74, allP_nil⟩) ?_
                        refine W_co [] [4] [] (s' := (lBigs_R false)) (by kernel_rfl) (W_ret ?_)
                        exact ⟨.inl rfl, by cases h; rfl⟩
          · replace h := bif_f h g55
            refine W_regD hT ftL_nil (by kernel_rfl) 25 [(2, false), (14, false)] [(1, false), (5, false), (42, false), (44, false), (54, false)] [] [1, 5, 56] [1] (s' := ⟨[(1, .c (.wh 0)), (5, .c (.s (.b r13))), (56, .c (.s (.b false)))], [], [⟨(.ro false), 5, 1, l1.length, .b l1⟩]⟩) (by kernel_rfl) (by kernel_rfl) (allP_cons.2 ⟨g5, (allP_cons.2 ⟨g55, allP_nil⟩)⟩) ?_
            refine W_cond (b := false) (by kernel_rfl) (fun hb => by cases hb) (fun _ => ?_)
            refine W_co [] [1, 5] [0] (s' := ⟨[(1, .c (.wh 0)), (5, .c (.s (.b r13)))], [], [⟨(.ro false), 5, 1, l1.length, .b l1⟩]⟩) (by kernel_rfl) (W_skip ?_)
            refine W_seq ?_
            obtain ⟨r59, g80, h⟩ := bind_some' h
            refine W_reg hT (ftL_cons (k := 1) (f := 41) (F := (pReadBig_ct n r59)) (pReadBig_ok n r59) (fun _ _ => True.intro) ftL_nil) [] [] [1, 5, 9, 10] [0, 1] (s' := ⟨[(1, .c (.wh 0)), (5, .c (.s (.b r13))), (9, .c (.wh 1)), (10, .c (.s (.er 31 .i64 r59.2.2)))], [], [⟨(.ro false), 5, 1, l1.length, .b l1⟩, ⟨.row, 89, 1, r59.2.1, .w r59.1⟩]⟩) (by kernel_rfl) (allP_cons.2 ⟨g80, allP_nil⟩) ?_
            refine W_seq ?_
            obtain ⟨r63, g81, h⟩ := bind_some' h
            refine W_reg hT (ftL_cons (k := 1) (f := 16) (F := (rNumber_ct n r63)) (rNumber_ok n r63) (fun _ _ => True.intro) ftL_nil) [] [] [1, 5, 9, 10, 11] [0, 1] (s' := ⟨[(1, .c (.wh 0)), (5, .c (.s (.b r13))), (9, .c (.wh 1)), (10, .c (.s (.er 31 .i64 r59.2.2))), (11, .c (.s (.b r63)))], [], [⟨(.ro false), 5, 1, l1.length, .b l1⟩, ⟨.row, 89, 1, r59.2.1, .w r59.1⟩]⟩) (by kernel_rfl) (allP_cons.2 ⟨g81, allP_nil⟩) ?_
            refine W_seq ?_
            refine W_seq ?_
            rcases Bool.eq_false_or_eq_true (!r63) with g82 | g82
            · replace h := bif_t h g82
              refine W_reg hT ftL_nil [(2, true)] [] [1, 5, 9, 10, 71] [0, 1] (s' := ⟨[(1, .c (.wh 0)), (5, .c (.s (.b r13))), (9, .c (.wh 1)), (10, .c (.s (.er 31 .i64 r59.2.2))), (71, .c (.s (.b true)))], [], [⟨(.ro false), 5, 1, l1.length, .b l1⟩, ⟨.row, 89, 1, r59.2.1, .w r59.1⟩]⟩) (by kernel_rfl) (allP_cons.2 ⟨g82, allP_nil⟩) ?_
              refine W_cond (b := true) (by kernel_rfl) (fun _ => ?_) (fun hb => by cases hb)
              refine W_seq ?_
              rcases Bool.eq_false_or_eq_true r13 with g83 | g83
              · replace h := bif_t h g83
                obtain ⟨g84, h⟩ := gd_some h
                rcases Bool.eq_false_or_eq_true (r59.2.2 == (some 2)) with g85 | g85
                · replace h := bif_t h g85
                  refine W_reg hT ftL_nil [(1, true), (6, true)] [] [4] [] (s' := ⟨[(4, .c (.s (.b (((r59.2.1 : Nat) : Int) == 0))))], [], []⟩) (by kernel_rfl) (allP_cons.2 ⟨g83, (allP_cons.2 ⟨g84, (allP_cons.2 ⟨g85, allP_nil⟩)⟩)⟩) ?_
                  refine W_co [] [4] [] (s' := (lBigs_R (((r59.2.1 : Nat) : Int) == 0))) (by kernel_rfl) (W_ret ?_)
                  exact ⟨.inl rfl, by cases h; rfl⟩
                · replace h := bif_f h g85
                  refine W_reg hT ftL_nil [(1, true), (6, false)] [] [4] [] (s' := ⟨[(4, .c (.s (.b false)))], [], []⟩) (by kernel_rfl) (allP_cons.2 ⟨g83, (allP_cons.2 ⟨g84, (allP_cons.2 ⟨g85, allP_nil⟩)⟩)⟩) ?_
                  refine W_co [] [4] [] (s' := (lBigs_R false)) (by kernel_rfl) (W_ret ?_)
                  exact ⟨.inl rfl, by cases h; rfl⟩
              · replace h := bif_f h g83
                refine W_reg hT ftL_nil [(1, false)] [] [4] [] (s' := ⟨[(4, .c (.s (.b false)))], [], []⟩) (by kernel_rfl) (allP_cons.2 ⟨g83, allP_nil⟩) ?_
                refine W_co [] [4] [] (s' := (lBigs_R false)) (by kernel_rfl) (W_ret ?_)
                exact ⟨.inl rfl, by cases h; rfl⟩
            · replace h := bif_f h g82
              obtain ⟨g86, h⟩ := gd_some h
              obtain ⟨g87, h⟩ := gd_some h
              refine W_reg hT ftL_nil [(2, false)] [] [1, 5, 9, 10, 71] [0, 1] (s' := ⟨[(1, .c (.wh 0)), (5, .c (.s (.b r13))), (9, .c (.wh 1)), (10, .c (.s (.er 31 .i64 r59.2.2))), (71, .c (.s (.b (decide ((128 : UInt8) ≤ (l1.getD 0 0))))))], [], [⟨(.ro false), 5, 1, l1.length, .b l1⟩, ⟨.row, 89, 1, r59.2.1, .w r59.1⟩]⟩) (by kernel_rfl) (allP_cons.2 ⟨g82, (allP_cons.2 ⟨g86, (allP_cons.2 ⟨g87, allP_nil⟩)⟩)⟩) ?_
              refine W_cond (b := (decide ((128 : UInt8) ≤ (l1.getD 0 0)))) (by kernel_rfl) (fun g100 => ?_) (fun g100 => ?_)
              · replace h := bif_t h g100
                refine W_seq ?_
                rcases Bool.eq_false_or_eq_true r13 with g88 | g88
                · replace h := bif_t h g88
                  obtain ⟨g89, h⟩ := gd_some h
                  rcases Bool.eq_false_or_eq_true (r59.2.2 == (some 2)) with g90 | g90
                  · replace h := bif_t h g90
                    refine W_reg hT ftL_nil [(1, true), (6, true)] [] [4] [] (s' := ⟨[(4, .c (.s (.b (((r59.2.1 : Nat) : Int) == 0))))], [], []⟩) (by kernel_rfl) (allP_cons.2 ⟨g88, (allP_cons.2 ⟨g89, (allP_cons.2 ⟨g90, allP_nil⟩)⟩)⟩) ?_
                    refine W_co [] [4] [] (s' := (lBigs_R (((r59.2.1 : Nat) : Int) == 0))) (by kernel_rfl) (W_ret ?_)
                    exact ⟨.inl rfl, by cases h; rfl⟩
                  · replace h := bif_f h g90
                    refine W_reg hT ftL_nil [(1, true), (6, false)] [] [4] [] (s' := ⟨[(4, .c (.s (.b false)))], [], []⟩) (by kernel_rfl) (allP_cons.2 ⟨g88, (allP_cons.2 ⟨g89, (allP_cons.2 ⟨g90, allP_nil⟩)⟩)⟩) ?_
                    refine W_co [] [4] [] (s' := (lBigs_R false)) (by kernel_rfl) (W_ret ?_)
                    exact ⟨.inl rfl, by cases h; rfl⟩
                · replace h := bif_f h g88
                  refine W_reg hT ftL_nil [(1, false)] [] [4] [] (s' := ⟨[(4, .c (.s (.b false)))], [], []⟩) (by kernel_rfl) (allP_cons.2 ⟨g88, allP_nil⟩) ?_
                  refine W_co [] [4] [] (s' := (lBigs_R false)) (by kernel_rfl) (W_ret ?_)
                  exact ⟨.inl rfl, by cases h; rfl⟩
              · replace h := bif_f h g100
                refine W_co [] [1, 5, 9, 10] [0, 1] (s' := ⟨[(1, .c (.wh 0)), (5, .c (.s (.b r13))), (9, .c (.wh 1)), (10, .c (.s (.er 31 .i64 r59.2.2)))], [], [⟨(.ro false), 5, 1, l1.length, .b l1⟩, ⟨.row, 89, 1, r59.2.1, .w r59.1⟩]⟩) (by kernel_rfl) (W_skip ?_)
                refine W_seq ?_
                obtain ⟨r84, g91, h⟩ := bind_some' h
                refine W_reg hT (ftL_cons (k := 1) (f := 42) (F := (rBytes_ct n r84)) (rBytes_ok n r84) (fun _ _ => True.intro) ftL_nil) [] [] [5, 9, 10, 12] [1, 2] (s' := ⟨[(5, .c (.s (.b r13))), (9, .c (.wh 0)), (10, .c (.s (.er 31 .i64 r59.2.2))), (12, .c (.wh 1))], [], [⟨.row, 89, 1, r59.2.1, .w r59.1⟩, ⟨(.ro true), 3, 1, r84.2, .z r84.1⟩]⟩) (by kernel_rfl) (allP_cons.2 ⟨g91, allP_nil⟩) ?_
                refine W_seq ?_
                refine W_seq ?_
                obtain ⟨r86, g92, h⟩ := bind_some' h
                refine W_reg hT (ftL_cons (k := 1) (f := 43) (F := (rSize_ct n r86)) (rSize_ok n r86) (fun _ _ => True.intro) ftL_nil) [] [] [5, 9, 10, 12, 87] [0, 1] (s' := ⟨[(5, .c (.s (.b r13))), (9, .c (.wh 0)), (10, .c (.s (.er 31 .i64 r59.2.2))), (12, .c (.wh 1)), (87, .c (.s (.b (decide ((256 : Int) < r86)))))], [], [⟨.row, 89, 1, r59.2.1, .w r59.1⟩, ⟨(.ro true), 3, 1, r84.2, .z r84.1⟩]⟩) (by kernel_rfl) (allP_cons.2 ⟨g92, allP_nil⟩) ?_
                refine W_cond (b := (decide ((256 : Int) < r86))) (by kernel_rfl) (fun g99 => ?_) (fun g99 => ?_)
                · replace h := bif_t h g99
                  refine W_seq ?_
                  rcases Bool.eq_false_or_eq_true r13 with g93 | g93
                  · replace h := bif_t h g93
                    obtain ⟨g94, h⟩ := gd_some h
                    rcases Bool.eq_false_or_eq_true (r59.2.2 == (some 4)) with g95 | g95
                    · replace h := bif_t h g95
                      refine W_reg hT ftL_nil [(1, true), (6, true)] [] [4] [] (s' := ⟨[(4, .c (.s (.b (((r59.2.1 : Nat) : Int) == 0))))], [], []⟩) (by kernel_rfl) (allP_cons.2 ⟨g93, (allP_cons.2 ⟨g94, (allP_cons.2 ⟨g95, allP_nil⟩)⟩)⟩) ?_
                      refine W_co [] [4] [] (s' := (lBigs_R (((r59.2.1 : Nat) : Int) == 0))) (by kernel_rfl) (W_ret ?_)
                      exact ⟨.inl rfl, by cases h; rfl⟩
                    · replace h := bif_f h g95
                      refine W_reg hT ftL_nil [(1, true), (6, false)] [] [4] [] (s' := ⟨[(4, .c (.s (.b false)))], [], []⟩) (by kernel_rfl) (allP_cons.2 ⟨g93, (allP_cons.2 ⟨g94, (allP_cons.2 ⟨g95, allP_nil⟩)⟩)⟩) ?_
                      refine W_co [] [4] [] (s' := (lBigs_R false)) (by kernel_rfl) (W_ret ?_)
                      exact ⟨.inl rfl, by cases h; rfl⟩
                  · replace h := bif_f h g93
                    refine W_reg hT ftL_nil [(1, false)] [] [4] [] (s' := ⟨[(4, .c (.s (.b false)))], [], []⟩) (by kernel_rfl) (allP_cons.2 ⟨g93, allP_nil⟩) ?_
                    refine W_co [] [4] [] (s' := (lBigs_R false)) (by kernel_rfl) (W_ret ?_)
                    exact ⟨.inl rfl, by cases h; rfl⟩
                · replace h := bif_f h g99
                  refine W_co [] [5, 9, 10, 12] [0, 1] (s' := ⟨[(5, .c (.s (.b r13))), (9, .c (.wh 0)), (10, .c (.s (.er 31 .i64 r59.2.2))), (12, .c (.wh 1))], [], [⟨.row, 89, 1, r59.2.1, .w r59.1⟩, ⟨(.ro true), 3, 1, r84.2, .z r84.1⟩]⟩) (by kernel_rfl) (W_skip ?_)
                  refine W_seq ?_
                  rcases Bool.eq_false_or_eq_true r13 with g96 | g96
                  · replace h := bif_t h g96
                    rcases Bool.eq_false_or_eq_true ((r59.2.2).isNone) with g97 | g97
                    · replace h := bif_t h g97
                      obtain ⟨r107, g98, h⟩ := bind_some' h
                      refine W_reg hT (ftL_cons (k := 8) (f := 44) (F := (rSame_ct n r107)) (rSame_ok n r107) (fun _ _ => True.intro) ftL_nil) [(1, true), (5, true)] [] [4] [] (s' := ⟨[(4, .c (.s (.b r107)))], [], []⟩) (by kernel_rfl) (allP_cons.2 ⟨g96, (allP_cons.2 ⟨g97, (allP_cons.2 ⟨g98, allP_nil⟩)⟩)⟩) ?_
                      refine W_co [] [4] [] (s' := (lBigs_R r107)) (by kernel_rfl) (W_ret ?_)
                      exact ⟨.inl rfl, by cases h; rfl⟩
                    · replace h := bif_f h g97
                      refine W_reg hT ftL_nil [(1, true), (5, false)] [] [4] [] (s' := ⟨[(4, .c (.s (.b false)))], [], []⟩) (by kernel_rfl) (allP_cons.2 ⟨g96, (allP_cons.2 ⟨g97, allP_nil⟩)⟩) ?_
                      refine W_co [] [4] [] (s' := (lBigs_R false)) (by kernel_rfl) (W_ret ?_)
                      exact ⟨.inl rfl, by cases h; rfl⟩
                  · replace h := bif_f h g96
                    refine W_reg hT ftL_nil [(1, false)] [] [4] [] (s' := ⟨[(4, .c (.s (.b false)))], [], []⟩) (by kernel_rfl) (allP_cons.2 ⟨g96, allP_nil⟩) ?_
                    refine W_co [] [4] [] (s' := (lBigs_R false)) (by kernel_rfl) (W_ret ?_)
                    exact ⟨.inl rfl, by cases h; rfl⟩
  · rintro e s' ⟨he, rfl⟩
    refine ⟨he, fun a' w' hr => ?_⟩
    exact retS_ok tabO_pb hr (rs := [.tmp 4]) rfl (objs := []) (by kernel_rfl)
end Go.Proofs.Ytliilihbnhdemaa
