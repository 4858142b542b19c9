import Derived.Test.YtliilihbnhdemaaSxX
import Derived.Test.YtliilihbnhdemaaProg
import Derived.Test.YtliilihbnhdemaaClb
set_option linter.unusedVariables false
set_option linter.unusedSimpArgs false
namespace Go.Proofs.Ytliilihbnhdemaa
open Go.RowKit Go.Ch Go.Sx

def tabL_pr : List (TypeId × Ti) := [(2, ⟨.int .i64, 1, 8, true, some [.int .i64]⟩),
  (3, ⟨.int .i64, 1, 8, true, some [.int .i64]⟩),
  (5, ⟨.int .u8, 1, 1, true, some [.int .u8]⟩),
  (9, ⟨.str, 1, 16, true, some [.str]⟩),
  (22, ⟨.sl 5, 1, 24, false, some [.nils]⟩),
  (28, ⟨.ifc, 1, 16, true, some [.ifc]⟩),
  (31, ⟨.int .i64, 1, 8, true, some [.int .i64]⟩),
  (34, ⟨.st [(3, 0), (3, 1), (3, 2), (3, 3), (3, 4), (3, 5)], 6, 48, true, some [.int .i64, .int .i64, .int .i64, .int .i64, .int .i64, .int .i64]⟩),
  (60, ⟨.sl 89, 1, 24, false, some [.nils]⟩),
  (76, ⟨.sl 3, 1, 24, false, some [.nils]⟩),
  (89, ⟨.int .u32, 1, 4, true, some [.int .u32]⟩),
  (91, ⟨.int .i8, 1, 1, true, some [.int .i8]⟩),
  (102, ⟨.int .u64, 1, 8, true, some [.int .u64]⟩)]
def tab_pr : Tab := fun t => (tabL_pr).lookup t
theorem tabE_pr : (tabL_pr.map fun p => tiOf Try.prog p.1) = tabL_pr.map fun p => some p.2 := by kernel_rfl
theorem tabO_pr : TabOk Try.prog tab_pr := tab_of tabE_pr

def pspare (n : Nat) (a0 : List UInt8) : Option (Bool) :=
  gd (0 ≤ (0 : Int)) <|
  gd ((0 : Int) < ((a0.length : Nat) : Int)) <|
  bif ((a0.getD 0 0) == 0) then
    gd (0 ≤ (1 : Int)) <|
    gd ((1 : Int) < ((a0.length : Nat) : Int)) <|
    bif (decide ((a0.getD 1 0) < (128 : UInt8))) then
      some true
    else
      gd (0 ≤ (0 : Int)) <|
      gd ((0 : Int) < ((a0.length : Nat) : Int)) <|
      bif ((a0.getD 0 0) == 255) then
        gd (0 ≤ (1 : Int)) <|
        gd ((1 : Int) < ((a0.length : Nat) : Int)) <|
        some (decide ((128 : UInt8) ≤ (a0.getD 1 0)))
      else
        some false
  else
    gd (0 ≤ (0 : Int)) <|
    gd ((0 : Int) < ((a0.length : Nat) : Int)) <|
    bif ((a0.getD 0 0) == 255) then
      gd (0 ≤ (1 : Int)) <|
      gd ((1 : Int) < ((a0.length : Nat) : Int)) <|
      some (decide ((128 : UInt8) ≤ (a0.getD 1 0)))
    else
      some false
def pReadInt_l1 (n : Nat) (a0 : List UInt8) : Nat → Int → Int → Option (Int × Option Int)
  | 0, _, _ => none
  | fu_l1 + 1, i4_2, i34_2 =>
    bif (decide (i34_2 < (((a0.length - 1) : Nat) : Int))) then
      gd (0 ≤ i34_2) <|
      gd (i34_2 < (((a0.length - 1) : Nat) : Int)) <|
      gd (0 ≤ (8 : Int)) <|
      gd ((8 : Int) ≤ (((IntKind.i64).bits : Nat) : Int)) <|
      gd (okI .i64 (i4_2 * 2 ^ 8)) <|
      gd (okI .i64 (i34_2 + 1)) <|
      (pReadInt_l1 n a0 fu_l1) (bitI .or .i64 (i4_2 * 2 ^ 8) (((((a0.drop 1).take (a0.length - 1)).getD i34_2.toNat 0).toNat : Nat) : Int)) (i34_2 + 1)
    else
      some (i4_2, none)
def pReadInt_l2 (n : Nat) (a0 : List UInt8) : Nat → Int → Int → Option (Int × Option Int)
  | 0, _, _ => none
  | fu_l2 + 1, i4_3, i34_3 =>
    bif (decide (i34_3 < (((a0.length - 1) : Nat) : Int))) then
      gd (0 ≤ i34_3) <|
      gd (i34_3 < (((a0.length - 1) : Nat) : Int)) <|
      gd (0 ≤ (8 : Int)) <|
      gd ((8 : Int) ≤ (((IntKind.i64).bits : Nat) : Int)) <|
      gd (okI .i64 (i4_3 * 2 ^ 8)) <|
      gd (okI .i64 (i34_3 + 1)) <|
      (pReadInt_l2 n a0 fu_l2) (bitI .or .i64 (i4_3 * 2 ^ 8) (((((a0.drop 1).take (a0.length - 1)).getD i34_3.toNat 0).toNat : Nat) : Int)) (i34_3 + 1)
    else
      some (i4_3, none)
def pReadInt (n : Nat) (a0 : List UInt8) : Option (Int × Option Int) :=
  bif (((a0.length : Nat) : Int) == 0) then
    some (0, (some 2))
  else
    bif (decide ((1 : Int) < ((a0.length : Nat) : Int))) then
      (pspare n a0).bind fun r17 =>
      bif r17 then
        some (0, (some 2))
      else
        bif (decide ((8 : Int) < ((a0.length : Nat) : Int))) then
          some (0, (some 4))
        else
          gd (0 ≤ (0 : Int)) <|
          gd ((0 : Int) < ((a0.length : Nat) : Int)) <|
          gd (okI .i64 (IntKind.i8.wrap (((a0.getD 0 0).toNat : Nat) : Int))) <|
          gd (0 ≤ (1 : Int)) <|
          gd ((1 : Int) ≤ ((a0.length : Nat) : Int)) <|
          pReadInt_l1 n a0 n (IntKind.i8.wrap (((a0.getD 0 0).toNat : Nat) : Int)) 0
    else
      bif (decide ((8 : Int) < ((a0.length : Nat) : Int))) then
        some (0, (some 4))
      else
        gd (0 ≤ (0 : Int)) <|
        gd ((0 : Int) < ((a0.length : Nat) : Int)) <|
        gd (okI .i64 (IntKind.i8.wrap (((a0.getD 0 0).toNat : Nat) : Int))) <|
        gd (0 ≤ (1 : Int)) <|
        gd ((1 : Int) ≤ ((a0.length : Nat) : Int)) <|
        pReadInt_l2 n a0 n (IntKind.i8.wrap (((a0.getD 0 0).toNat : Nat) : Int)) 0
def pident (n : Nat) (a0 : List UInt32) : Option (Bool) :=
  bif (decide (((a0.length : Nat) : Int) < (2 : Int))) then
    some false
  else
    bif (decide ((16 : Int) < ((a0.length : Nat) : Int))) then
      some false
    else
      gd (0 ≤ (0 : Int)) <|
      gd ((0 : Int) < ((a0.length : Nat) : Int)) <|
      bif (decide ((2 : UInt32) < (a0.getD 0 0))) then
        some false
      else
        gd (0 ≤ (0 : Int)) <|
        gd ((0 : Int) < ((a0.length : Nat) : Int)) <|
        bif (decide ((a0.getD 0 0) < (2 : UInt32))) then
          gd (0 ≤ (1 : Int)) <|
          gd ((1 : Int) < ((a0.length : Nat) : Int)) <|
          some (decide ((a0.getD 1 0) < (40 : UInt32)))
        else
          gd (0 ≤ (1 : Int)) <|
          gd ((1 : Int) < ((a0.length : Nat) : Int)) <|
          some (decide ((((a0.getD 1 0).toUInt64) + (80 : UInt64)) < (4294967296 : UInt64)))
def pOid_l1 (n : Nat) (a0 : List UInt32) : Nat → List UInt8 → Int → Option (List UInt8 × Option Int)
  | 0, _, _ => none
  | fu_l1 + 1, l4_1, i23_1 =>
    bif (decide (i23_1 < (((a0.length - 2) : Nat) : Int))) then
      gd (0 ≤ i23_1) <|
      gd (i23_1 < (((a0.length - 2) : Nat) : Int)) <|
      gd (rmB (l4_1.length + ((grp (((a0.drop 2).take (a0.length - 2)).getD i23_1.toNat 0)).length)) 1) <|
      gd (okI .i64 (i23_1 + 1)) <|
      (pOid_l1 n a0 fu_l1) (l4_1 ++ (grp (((a0.drop 2).take (a0.length - 2)).getD i23_1.toNat 0))) (i23_1 + 1)
    else
      some (l4_1, none)
def pOid (n : Nat) (a0 : List UInt32) : Option (List UInt8 × Option Int) :=
  (pident n a0).bind fun r8 =>
  bif (!r8) then
    some ([], (some 1))
  else
    gd (0 ≤ (0 : Int)) <|
    gd ((0 : Int) < ((a0.length : Nat) : Int)) <|
    gd (0 ≤ (1 : Int)) <|
    gd ((1 : Int) < ((a0.length : Nat) : Int)) <|
    gd (0 ≤ (2 : Int)) <|
    gd ((2 : Int) ≤ ((a0.length : Nat) : Int)) <|
    pOid_l1 n a0 n (grp (((40 : UInt32) * (a0.getD 0 0)) + (a0.getD 1 0))) 0
def pleap (n : Nat) (a0 : Int) : Option (Bool) :=
  gd ((4 : Int) ≠ 0) <|
  bif ((Int.tmod a0 4) == 0) then
    gd ((100 : Int) ≠ 0) <|
    bif ((Int.tmod a0 100) != 0) then
      some true
    else
      gd ((400 : Int) ≠ 0) <|
      some ((Int.tmod a0 400) == 0)
  else
    some false
def pdays_j1 (n : Nat) (a0 : Int) (a1 : Int) (p6_1 : Bool) : Option (Int) :=
  bif p6_1 then
    some 30
  else
    bif (a1 == 2) then
      (pleap n a0).bind fun r14 =>
      bif r14 then
        some 29
      else
        some 28
    else
      some 31
def pdays (n : Nat) (a0 : Int) (a1 : Int) : Option (Int) :=
  bif (a1 == 4) then
    pdays_j1 n a0 a1 (a1 == 4)
  else
    bif (a1 == 6) then
      pdays_j1 n a0 a1 (a1 == 6)
    else
      bif (a1 == 9) then
        pdays_j1 n a0 a1 (a1 == 9)
      else
        pdays_j1 n a0 a1 (a1 == 11)
def pvalid (n : Nat) (a0_0 : Int) (a0_1 : Int) (a0_2 : Int) (a0_3 : Int) (a0_4 : Int) (a0_5 : Int) : Option (Bool) :=
  bif (decide (a0_0 < (1 : Int))) then
    some false
  else
    bif (decide ((9999 : Int) < a0_0)) then
      some false
    else
      bif (decide (a0_1 < (1 : Int))) then
        some false
      else
        bif (decide ((12 : Int) < a0_1)) then
          some false
        else
          bif (decide (a0_2 < (1 : Int))) then
            some false
          else
            (pdays n a0_0 a0_1).bind fun r33 =>
            bif (decide (r33 < a0_2)) then
              some false
            else
              bif (decide ((0 : Int) ≤ a0_3)) then
                bif (decide (a0_3 ≤ (23 : Int))) then
                  bif (decide ((0 : Int) ≤ a0_4)) then
                    bif (decide (a0_4 ≤ (59 : Int))) then
                      bif (decide ((0 : Int) ≤ a0_5)) then
                        some (decide (a0_5 ≤ (59 : Int)))
                      else
                        some false
                    else
                      some false
                  else
                    some false
                else
                  some false
              else
                some false
def pTime_l1 (n : Nat) (b5_1 : UInt8) (z6_1 : List Int) (m6_1 : Nat) : Nat → List UInt8 → Int → Option (UInt8 × List UInt8 × Option Int)
  | 0, _, _ => none
  | fu_l1 + 1, l7_1, i43_1 =>
    bif (decide (i43_1 < ((m6_1 : Nat) : Int))) then
      gd (0 ≤ i43_1) <|
      gd (i43_1 < ((m6_1 : Nat) : Int)) <|
      gd ((10 : Int) ≠ 0) <|
      gd (okI .i64 (Int.tdiv (z6_1.getD i43_1.toNat 0) 10)) <|
      gd (okI .i64 (48 + (Int.tdiv (z6_1.getD i43_1.toNat 0) 10))) <|
      gd ((10 : Int) ≠ 0) <|
      gd (okI .i64 (48 + (Int.tmod (z6_1.getD i43_1.toNat 0) 10))) <|
      gd (rmB (l7_1.length + 2) 1) <|
      gd (okI .i64 (i43_1 + 1)) <|
      (pTime_l1 n b5_1 z6_1 m6_1 fu_l1) (l7_1 ++ [(UInt8.ofInt (48 + (Int.tdiv (z6_1.getD i43_1.toNat 0) 10))), (UInt8.ofInt (48 + (Int.tmod (z6_1.getD i43_1.toNat 0) 10)))]) (i43_1 + 1)
    else
      gd (rmB (l7_1.length + 1) 1) <|
      some (b5_1, (l7_1 ++ [90]), none)
def pTime_j1 (n : Nat) (b5_1 : UInt8) (z6_1 : List Int) (m6_1 : Nat) : Option (UInt8 × List UInt8 × Option Int) :=
  pTime_l1 n b5_1 z6_1 m6_1 n [] 0
def pTime (n : Nat) (a0_0 : Int) (a0_1 : Int) (a0_2 : Int) (a0_3 : Int) (a0_4 : Int) (a0_5 : Int) : Option (UInt8 × List UInt8 × Option Int) :=
  (pvalid n a0_0 a0_1 a0_2 a0_3 a0_4 a0_5).bind fun r11 =>
  bif (!r11) then
    some (0, [], (some 1))
  else
    gd ((100 : Int) ≠ 0) <|
    gd (okI .i64 (Int.tdiv a0_0 100)) <|
    gd ((100 : Int) ≠ 0) <|
    bif (decide ((1950 : Int) ≤ a0_0)) then
      bif (decide (a0_0 < (2050 : Int))) then
        gd (0 ≤ (1 : Int)) <|
        gd ((1 : Int) ≤ (7 : Int)) <|
        pTime_j1 n 23 (([(Int.tdiv a0_0 100), (Int.tmod a0_0 100), a0_1, a0_2, a0_3, a0_4, a0_5].drop 1).take 6) 6
      else
        pTime_j1 n 24 [(Int.tdiv a0_0 100), (Int.tmod a0_0 100), a0_1, a0_2, a0_3, a0_4, a0_5] 7
    else
      pTime_j1 n 24 [(Int.tdiv a0_0 100), (Int.tmod a0_0 100), a0_1, a0_2, a0_3, a0_4, a0_5] 7
def pahead (n : Nat) (a0 : Int) : Option (Int) :=
  gd (okI .i64 (a0 - 1)) <|
  gd (okI .i64 (365 * (a0 - 1))) <|
  gd ((4 : Int) ≠ 0) <|
  gd (okI .i64 (Int.tdiv (a0 - 1) 4)) <|
  gd (okI .i64 ((365 * (a0 - 1)) + (Int.tdiv (a0 - 1) 4))) <|
  gd ((100 : Int) ≠ 0) <|
  gd (okI .i64 (Int.tdiv (a0 - 1) 100)) <|
  gd (okI .i64 (((365 * (a0 - 1)) + (Int.tdiv (a0 - 1) 4)) - (Int.tdiv (a0 - 1) 100))) <|
  gd ((400 : Int) ≠ 0) <|
  gd (okI .i64 (Int.tdiv (a0 - 1) 400)) <|
  gd (okI .i64 ((((365 * (a0 - 1)) + (Int.tdiv (a0 - 1) 4)) - (Int.tdiv (a0 - 1) 100)) + (Int.tdiv (a0 - 1) 400))) <|
  some ((((365 * (a0 - 1)) + (Int.tdiv (a0 - 1) 4)) - (Int.tdiv (a0 - 1) 100)) + (Int.tdiv (a0 - 1) 400))
def pCount_l1 (n : Nat) (a0_0 : Int) (a0_1 : Int) (a0_2 : Int) (a0_3 : Int) (a0_4 : Int) (a0_5 : Int) : Nat → Int → Int → Option (Int × Option Int)
  | 0, _, _ => none
  | fu_l1 + 1, i4_1, i5_1 =>
    bif (decide (i5_1 < a0_1)) then
      (pdays n a0_0 i5_1).bind fun r27_2 =>
      gd (okI .i64 (i4_1 + r27_2)) <|
      gd (okI .i64 (i5_1 + 1)) <|
      (pCount_l1 n a0_0 a0_1 a0_2 a0_3 a0_4 a0_5 fu_l1) (i4_1 + r27_2) (i5_1 + 1)
    else
      gd (okI .i64 (i4_1 * 86400)) <|
      gd (okI .i64 (a0_3 * 3600)) <|
      gd (okI .i64 (a0_4 * 60)) <|
      gd (okI .i64 ((a0_3 * 3600) + (a0_4 * 60))) <|
      gd (okI .i64 (((a0_3 * 3600) + (a0_4 * 60)) + a0_5)) <|
      gd (okI .i64 ((i4_1 * 86400) + (((a0_3 * 3600) + (a0_4 * 60)) + a0_5))) <|
      some (((i4_1 * 86400) + (((a0_3 * 3600) + (a0_4 * 60)) + a0_5)), none)
def pCount (n : Nat) (a0_0 : Int) (a0_1 : Int) (a0_2 : Int) (a0_3 : Int) (a0_4 : Int) (a0_5 : Int) : Option (Int × Option Int) :=
  (pvalid n a0_0 a0_1 a0_2 a0_3 a0_4 a0_5).bind fun r7 =>
  bif (!r7) then
    some (0, (some 1))
  else
    (pahead n a0_0).bind fun r12 =>
    gd (okI .i64 (a0_2 - 1)) <|
    gd (okI .i64 (r12 + (a0_2 - 1))) <|
    pCount_l1 n a0_0 a0_1 a0_2 a0_3 a0_4 a0_5 n (r12 + (a0_2 - 1)) 1
def pInt_j1 (n : Nat) (l3_6 : List UInt8) (m3_4 : Nat) : Option (List UInt8) :=
  gd ((l3_6).length ≤ 1000000000000) <|
  some l3_6
def pInt_l2 (n : Nat) : Nat → List UInt8 → Nat → Option (List UInt8)
  | 0, _, _ => none
  | fu_l2 + 1, l3_7, m3_5 =>
    bif (decide ((1 : Int) < ((m3_5 : Nat) : Int))) then
      (pspare n l3_7).bind fun r21_5 =>
      bif r21_5 then
        gd (0 ≤ (1 : Int)) <|
        gd ((1 : Int) ≤ ((m3_5 : Nat) : Int)) <|
        (pInt_l2 n fu_l2) ((l3_7.drop 1).take (m3_5 - 1)) (m3_5 - 1)
      else
        pInt_j1 n l3_7 m3_5
    else
      pInt_j1 n l3_7 m3_5
def pInt_l1 (n : Nat) (a0 : Int) : Nat → List UInt8 → Int → Option (List UInt8)
  | 0, _, _ => none
  | fu_l1 + 1, l3_4, i4_1 =>
    bif (decide ((0 : Int) ≤ i4_1)) then
      gd (0 ≤ i4_1) <|
      gd (i4_1 ≤ (((IntKind.i64).bits : Nat) : Int)) <|
      gd (rmB (l3_4.length + 1) 1) <|
      gd (okI .i64 (i4_1 - 8)) <|
      (pInt_l1 n a0 fu_l1) (l3_4 ++ [(UInt8.ofInt (a0 / 2 ^ i4_1.toNat))]) (i4_1 - 8)
    else
      pInt_l2 n n l3_4 l3_4.length
def pInt (n : Nat) (a0 : Int) : Option (List UInt8) :=
  pInt_l1 n a0 n [] 56
def pup (n : Nat) : Option (Bool) :=
  (pReadInt n [0, 127]).bind fun r12 =>
  (pOid n [1, 2, 840, 113549]).bind fun r17 =>
  (pTime n 2049 12 31 23 59 59).bind fun r22 =>
  (pCount n 1 1 1 0 0 1).bind fun r28 =>
  (pInt n (-129)).bind fun r31 =>
  bif (r31 == ([255, 127] : List UInt8)) then
    gd (¬((r12.2 : Option Int) = none ∧ ((some 2) : Option Int) = none)) <|
    bif (r12.2 == (some 2)) then
      bif ((r17.2).isNone) then
        bif (r17.1 == ([42, 134, 72, 134, 247, 13] : List UInt8)) then
          bif ((r22.2.2).isNone) then
            bif (r22.1 == 23) then
              bif (r22.2.1 == ([52, 57, 49, 50, 51, 49, 50, 51, 53, 57, 53, 57, 90] : List UInt8)) then
                bif ((r28.2).isNone) then
                  some (r28.1 == 1)
                else
                  some false
              else
                some false
            else
              some false
          else
            some false
        else
          some false
      else
        some false
    else
      some false
  else
    some false

def pspare_R (r : Bool) : S := ⟨[(2, .c (.s (.b r)))], [], []⟩
def pspare_ct (n : Nat) (r : Bool) : Ct := fun args H => match args with
  | [x0] => (match aB H x0 with | some l0 => some ([pspare n l0 = some r], shA H.length (.c (.s (.b r))), shH H.length []) | none => none)
  | _ => none
theorem pspare_ok (n : Nat) (r : Bool) : FnOk Try.prog Tr 48 (pspare_ct n r) := by
  refine ⟨fun args H g av objs hF hg ρ w vals hG hp ha => ?_, _, Try.func48, by kernel_rfl, by kernel_rfl⟩
  obtain ⟨x0, rfl⟩ : ∃ x0, args = [x0] := by
    unfold pspare_ct at hF; split at hF
    · exact ⟨_, rfl⟩
    · cases hF
  cases e0 : aB H x0 with
  | none => simp only [pspare_ct, e0, reduceCtorEq] at hF
  | some l0 =>
  simp only [pspare_ct, e0, Option.some.injEq, Prod.mk.injEq] at hF
  obtain ⟨rfl, rfl, rfl⟩ := hF
  obtain ⟨v0, vals, rfl, k0, ha⟩ := F2.inv ha
  obtain rfl := F2.inv0 ha
  have hI : ∀ w', Kp (noB (fun _ => undef)) w w' → Tr w' := fun _ hk => Tr.keep hk.below hG
  have h : pspare n l0 = some r := hg
  obtain ⟨p0, s0, o0⟩ := aB_ok hp e0 (k0) 5
  have hR0 := rel0 (gv := (fun _ => undef)) (n := 25) (w := w) (args := [.c (.wh 0)]) (H := [⟨.ro false, 5, 1, l0.length, .b l0⟩]) (gl := []) (hpL (ps := [p0]) (F2.cons o0 F2.nil)) (allRo_ok rfl) (F2.cons s0 F2.nil) GlR.nil (by simp)
  clear ha hp hg k0 e0
  refine calls_W Try.func48 rfl rfl hR0 (Q := fun e s => (e = .ret ∨ e = .normal) ∧ s = pspare_R r) ?_ ?_
  · clear hR0
    unfold pspare at h
    have hT := tabO_pr
    refine W_seq ?_
    refine W_reg hT ftL_nil [] [] [0] [0] (s' := ⟨[(0, .c (.wh 0))], [], [⟨(.ro false), 5, 1, l0.length, .b l0⟩]⟩) (by kernel_rfl) allP_nil ?_
    refine W_seq ?_
    obtain ⟨g1, h⟩ := gd_some h
    obtain ⟨g2, h⟩ := gd_some h
    rcases Bool.eq_false_or_eq_true ((l0.getD 0 0) == 0) with g3 | g3
    · replace h := bif_t h g3
      obtain ⟨g4, h⟩ := gd_some h
      obtain ⟨g5, h⟩ := gd_some h
      rcases Bool.eq_false_or_eq_true (decide ((l0.getD 1 0) < (128 : UInt8))) with g6 | g6
      · replace h := bif_t h g6
        refine W_reg hT ftL_nil [(4, true), (10, true)] [] [2] [] (s' := ⟨[(2, .c (.s (.b true)))], [], []⟩) (by kernel_rfl) (allP_cons.2 ⟨g1, (allP_cons.2 ⟨g2, (allP_cons.2 ⟨g3, (allP_cons.2 ⟨g4, (allP_cons.2 ⟨g5, (allP_cons.2 ⟨g6, allP_nil⟩)⟩)⟩)⟩)⟩)⟩) ?_
        refine W_co [] [2] [] (s' := (pspare_R true)) (by kernel_rfl) (W_ret ?_)
        exact ⟨.inl rfl, by cases h; rfl⟩
      · replace h := bif_f h g6
        obtain ⟨g7, h⟩ := gd_some h
        obtain ⟨g8, h⟩ := gd_some h
        rcases Bool.eq_false_or_eq_true ((l0.getD 0 0) == 255) with g9 | g9
        · replace h := bif_t h g9
          obtain ⟨g10, h⟩ := gd_some h
          obtain ⟨g11, h⟩ := gd_some h
          refine W_reg hT ftL_nil [(4, true), (10, false), (15, true)] [] [2] [] (s' := ⟨[(2, .c (.s (.b (decide ((128 : UInt8) ≤ (l0.getD 1 0))))))], [], []⟩) (by kernel_rfl) (allP_cons.2 ⟨g1, (allP_cons.2 ⟨g2, (allP_cons.2 ⟨g3, (allP_cons.2 ⟨g4, (allP_cons.2 ⟨g5, (allP_cons.2 ⟨g6, (allP_cons.2 ⟨g7, (allP_cons.2 ⟨g8, (allP_cons.2 ⟨g9, (allP_cons.2 ⟨g10, (allP_cons.2 ⟨g11, allP_nil⟩)⟩)⟩)⟩)⟩)⟩)⟩)⟩)⟩)⟩)⟩) ?_
          refine W_co [] [2] [] (s' := (pspare_R (decide ((128 : UInt8) ≤ (l0.getD 1 0))))) (by kernel_rfl) (W_ret ?_)
          exact ⟨.inl rfl, by cases h; rfl⟩
        · replace h := bif_f h g9
          refine W_reg hT ftL_nil [(4, true), (10, false), (15, false)] [] [2] [] (s' := ⟨[(2, .c (.s (.b false)))], [], []⟩) (by kernel_rfl) (allP_cons.2 ⟨g1, (allP_cons.2 ⟨g2, (allP_cons.2 ⟨g3, (allP_cons.2 ⟨g4, (allP_cons.2 ⟨g5, (allP_cons.2 ⟨g6, (allP_cons.2 ⟨g7, (allP_cons.2 ⟨g8, (allP_cons.2 ⟨g9, allP_nil⟩)⟩)⟩)⟩)⟩)⟩)⟩)⟩)⟩) ?_
          refine W_co [] [2] [] (s' := (pspare_R false)) (by kernel_rfl) (W_ret ?_)
          exact ⟨.inl rfl, by cases h; rfl⟩
    · replace h := bif_f h g3
      obtain ⟨g12, h⟩ := gd_some h
      obtain ⟨g13, h⟩ := gd_some h
      rcases Bool.eq_false_or_eq_true ((l0.getD 0 0) == 255) with g14 | g14
      · replace h := bif_t h g14
        obtain ⟨g15, h⟩ := gd_some h
        obtain ⟨g16, h⟩ := gd_some h
        refine W_reg hT ftL_nil [(4, false), (15, true)] [] [2] [] (s' := ⟨[(2, .c (.s (.b (decide ((128 : UInt8) ≤ (l0.getD 1 0))))))], [], []⟩) (by kernel_rfl) (allP_cons.2 ⟨g1, (allP_cons.2 ⟨g2, (allP_cons.2 ⟨g3, (allP_cons.2 ⟨g12, (allP_cons.2 ⟨g13, (allP_cons.2 ⟨g14, (allP_cons.2 ⟨g15, (allP_cons.2 ⟨g16, allP_nil⟩)⟩)⟩)⟩)⟩)⟩)⟩)⟩) ?_
        refine W_co [] [2] [] (s' := (pspare_R (decide ((128 : UInt8) ≤ (l0.getD 1 0))))) (by kernel_rfl) (W_ret ?_)
        exact ⟨.inl rfl, by cases h; rfl⟩
      · replace h := bif_f h g14
        refine W_reg hT ftL_nil [(4, false), (15, false)] [] [2] [] (s' := ⟨[(2, .c (.s (.b false)))], [], []⟩) (by kernel_rfl) (allP_cons.2 ⟨g1, (allP_cons.2 ⟨g2, (allP_cons.2 ⟨g3, (allP_cons.2 ⟨g12, (allP_cons.2 ⟨g13, (allP_cons.2 ⟨g14, allP_nil⟩)⟩)⟩)⟩)⟩)⟩) ?_
        refine W_co [] [2] [] (s' := (pspare_R false)) (by kernel_rfl) (W_ret ?_)
        exact ⟨.inl rfl, by cases h; rfl⟩
  · rintro e s' ⟨he, rfl⟩
    refine ⟨he, fun a' w' hr => ?_⟩
    exact retS_ok tabO_pr hr (rs := [.tmp 2]) rfl (objs := []) (by kernel_rfl)
def pReadInt_l1_E (a0 : List UInt8) (i4_2 : Int) (i34_2 : Int) : S := ⟨[(4, .c (.s (.k .i64 i4_2))), (32, .c (.wh 0)), (33, .c (.s (.k .i64 (((a0.length - 1) : Nat) : Int)))), (34, .c (.s (.k .i64 i34_2)))], [], [⟨(.ro false), 5, 1, (a0.length - 1), .b ((a0.drop 1).take (a0.length - 1))⟩]⟩
def pReadInt_l1_P (n : Nat) (a0 : List UInt8) (r : Int × Option Int) (fu : Nat) : S → Prop := fun s => ∃ (i4_2 : Int), ∃ (i34_2 : Int), s = pReadInt_l1_E a0 i4_2 i34_2 ∧ pReadInt_l1 n a0 fu i4_2 i34_2 = some r
theorem pReadInt_l1_M {n : Nat} {a0 : List UInt8} {i4_2 : Int} {i34_2 : Int} {r : Int × Option Int} {fu : Nat} (h : pReadInt_l1 n a0 fu i4_2 i34_2 = some r) : pReadInt_l1_P n a0 r fu (pReadInt_l1_E a0 i4_2 i34_2) := ⟨i4_2, i34_2, rfl, h⟩
def pReadInt_l2_E (a0 : List UInt8) (i4_3 : Int) (i34_3 : Int) : S := ⟨[(4, .c (.s (.k .i64 i4_3))), (32, .c (.wh 0)), (33, .c (.s (.k .i64 (((a0.length - 1) : Nat) : Int)))), (34, .c (.s (.k .i64 i34_3)))], [], [⟨(.ro false), 5, 1, (a0.length - 1), .b ((a0.drop 1).take (a0.length - 1))⟩]⟩
def pReadInt_l2_P (n : Nat) (a0 : List UInt8) (r : Int × Option Int) (fu : Nat) : S → Prop := fun s => ∃ (i4_3 : Int), ∃ (i34_3 : Int), s = pReadInt_l2_E a0 i4_3 i34_3 ∧ pReadInt_l2 n a0 fu i4_3 i34_3 = some r
theorem pReadInt_l2_M {n : Nat} {a0 : List UInt8} {i4_3 : Int} {i34_3 : Int} {r : Int × Option Int} {fu : Nat} (h : pReadInt_l2 n a0 fu i4_3 i34_3 = some r) : pReadInt_l2_P n a0 r fu (pReadInt_l2_E a0 i4_3 i34_3) := ⟨i4_3, i34_3, rfl, h⟩
def pReadInt_R (r : Int × Option Int) : S := ⟨[(2, .c (.s (.k .i64 r.1))), (3, .c (.s (.er 31 .i64 r.2)))], [], []⟩
def pReadInt_ct (n : Nat) (r : Int × Option Int) : Ct := fun args H => match args with
  | [x0] => (match aB H x0 with | some l0 => some ([pReadInt n l0 = some r], shA H.length (.t [.c (.s (.k .i64 r.1)), .c (.s (.er 31 .i64 r.2))]), shH H.length []) | none => none)
  | _ => none
theorem pReadInt_ok (n : Nat) (r : Int × Option Int) : FnOk Try.prog Tr 18 (pReadInt_ct n r) := by
  refine ⟨fun args H g av objs hF hg ρ w vals hG hp ha => ?_, _, Try.func18, by kernel_rfl, by kernel_rfl⟩
  obtain ⟨x0, rfl⟩ : ∃ x0, args = [x0] := by
    unfold pReadInt_ct at hF; split at hF
    · exact ⟨_, rfl⟩
    · cases hF
  cases e0 : aB H x0 with
  | none => simp only [pReadInt_ct, e0, reduceCtorEq] at hF
  | some l0 =>
  simp only [pReadInt_ct, e0, Option.some.injEq, Prod.mk.injEq] at hF
  obtain ⟨rfl, rfl, rfl⟩ := hF
  obtain ⟨v0, vals, rfl, k0, ha⟩ := F2.inv ha
  obtain rfl := F2.inv0 ha
  have hI : ∀ w', Kp (noB (fun _ => undef)) w w' → Tr w' := fun _ hk => Tr.keep hk.below hG
  have h : pReadInt n l0 = some r := hg
  obtain ⟨p0, s0, o0⟩ := aB_ok hp e0 (k0) 5
  have hR0 := rel0 (gv := (fun _ => undef)) (n := 45) (w := w) (args := [.c (.wh 0)]) (H := [⟨.ro false, 5, 1, l0.length, .b l0⟩]) (gl := []) (hpL (ps := [p0]) (F2.cons o0 F2.nil)) (allRo_ok rfl) (F2.cons s0 F2.nil) GlR.nil (by simp)
  clear ha hp hg k0 e0
  refine calls_W Try.func18 rfl rfl hR0 (Q := fun e s => (e = .ret ∨ e = .normal) ∧ s = pReadInt_R r) ?_ ?_
  · clear hR0
    unfold pReadInt at h
    have hT := tabO_pr
    refine W_seq ?_
    refine W_reg hT ftL_nil [] [] [0] [0] (s' := ⟨[(0, .c (.wh 0))], [], [⟨(.ro false), 5, 1, l0.length, .b l0⟩]⟩) (by kernel_rfl) allP_nil ?_
    refine W_seq ?_
    refine W_block ?_
    refine W_seq ?_
    rcases Bool.eq_false_or_eq_true (((l0.length : Nat) : Int) == 0) with g1 | g1
    · replace h := bif_t h g1
      refine W_reg hT ftL_nil [(3, true)] [] [0, 7] [0] (s' := ⟨[(0, .c (.wh 0)), (7, .c (.s (.b true)))], [], [⟨(.ro false), 5, 1, l0.length, .b l0⟩]⟩) (by kernel_rfl) (allP_cons.2 ⟨g1, allP_nil⟩) ?_
      refine W_cond (b := true) (by kernel_rfl) (fun _ => ?_) (fun hb => by cases hb)
      refine W_seq ?_
      refine W_reg hT ftL_nil [] [] [2, 3] [] (s' := ⟨[(2, .c (.s (.k .i64 0))), (3, .c (.s (.er 31 .i64 (some 2))))], [], []⟩) (by kernel_rfl) allP_nil ?_
      refine W_co [] [2, 3] [] (s' := (pReadInt_R (0, (some 2)))) (by kernel_rfl) (W_ret ?_)
      exact ⟨.inl rfl, by cases h; rfl⟩
    · replace h := bif_f h g1
      rcases Bool.eq_false_or_eq_true (decide ((1 : Int) < ((l0.length : Nat) : Int))) with g2 | g2
      · replace h := bif_t h g2
        obtain ⟨r17, g3, h⟩ := bind_some' h
        refine W_reg hT (ftL_cons (k := 9) (f := 48) (F := (pspare_ct n r17)) (pspare_ok n r17) (fun _ _ => True.intro) ftL_nil) [(3, false), (7, true)] [] [0, 7] [0] (s' := ⟨[(0, .c (.wh 0)), (7, .c (.s (.b r17)))], [], [⟨(.ro false), 5, 1, l0.length, .b l0⟩]⟩) (by kernel_rfl) (allP_cons.2 ⟨g1, (allP_cons.2 ⟨g2, (allP_cons.2 ⟨g3, allP_nil⟩)⟩)⟩) ?_
        refine W_cond (b := r17) (by kernel_rfl) (fun g17 => ?_) (fun g17 => ?_)
        · replace h := bif_t h g17
          refine W_seq ?_
          refine W_reg hT ftL_nil [] [] [2, 3] [] (s' := ⟨[(2, .c (.s (.k .i64 0))), (3, .c (.s (.er 31 .i64 (some 2))))], [], []⟩) (by kernel_rfl) allP_nil ?_
          refine W_co [] [2, 3] [] (s' := (pReadInt_R (0, (some 2)))) (by kernel_rfl) (W_ret ?_)
          exact ⟨.inl rfl, by cases h; rfl⟩
        · replace h := bif_f h g17
          refine W_seq ?_
          refine W_reg hT ftL_nil [] [] [0, 21] [0] (s' := ⟨[(0, .c (.wh 0)), (21, .c (.s (.b (decide ((8 : Int) < ((l0.length : Nat) : Int))))))], [], [⟨(.ro false), 5, 1, l0.length, .b l0⟩]⟩) (by kernel_rfl) allP_nil ?_
          refine W_cond (b := (decide ((8 : Int) < ((l0.length : Nat) : Int)))) (by kernel_rfl) (fun g16 => ?_) (fun g16 => ?_)
          · replace h := bif_t h g16
            refine W_seq ?_
            refine W_reg hT ftL_nil [] [] [2, 3] [] (s' := ⟨[(2, .c (.s (.k .i64 0))), (3, .c (.s (.er 31 .i64 (some 4))))], [], []⟩) (by kernel_rfl) allP_nil ?_
            refine W_co [] [2, 3] [] (s' := (pReadInt_R (0, (some 4)))) (by kernel_rfl) (W_ret ?_)
            exact ⟨.inl rfl, by cases h; rfl⟩
          · replace h := bif_f h g16
            refine W_co [] [0] [0] (s' := ⟨[(0, .c (.wh 0))], [], [⟨(.ro false), 5, 1, l0.length, .b l0⟩]⟩) (by kernel_rfl) (W_skip ?_)
            refine W_seq ?_
            obtain ⟨g4, h⟩ := gd_some h
            obtain ⟨g5, h⟩ := gd_some h
            obtain ⟨g6, h⟩ := gd_some h
            refine W_reg hT ftL_nil [] [] [0, 4] [0] (s' := ⟨[(0, .c (.wh 0)), (4, .c (.s (.k .i64 (IntKind.i8.wrap (((l0.getD 0 0).toNat : Nat) : Int)))))], [], [⟨(.ro false), 5, 1, l0.length, .b l0⟩]⟩) (by kernel_rfl) (allP_cons.2 ⟨g4, (allP_cons.2 ⟨g5, (allP_cons.2 ⟨g6, allP_nil⟩)⟩)⟩) ?_
            refine W_seq ?_
            refine W_seq ?_
            obtain ⟨g7, h⟩ := gd_some h
            obtain ⟨g8, h⟩ := gd_some h
            refine W_reg hT ftL_nil [] [] [4, 32, 33, 34] [0] (s' := ⟨[(4, .c (.s (.k .i64 (IntKind.i8.wrap (((l0.getD 0 0).toNat : Nat) : Int))))), (32, .c (.sl 0 1 (l0.length - 1))), (33, .c (.s (.k .i64 (((l0.length - 1) : Nat) : Int)))), (34, .c (.s (.k .i64 0)))], [], [⟨(.ro false), 5, 1, l0.length, .b l0⟩]⟩) (by kernel_rfl) (allP_cons.2 ⟨g7, (allP_cons.2 ⟨g8, allP_nil⟩)⟩) ?_
            refine W_block ?_
            refine W_co [.vw 32 false] [4, 32, 33, 34] [1] (s' := (pReadInt_l1_E l0 (IntKind.i8.wrap (((l0.getD 0 0).toNat : Nat) : Int)) 0)) (by kernel_rfl) (W_lp ((pReadInt_l1_P n l0 r)) n (pReadInt_l1_M h) ?_)
            rintro fu_l1 _ ⟨i4_2, i34_2, rfl, h⟩
            cases fu_l1 with
            | zero => cases h
            | succ fu_l1 =>
              refine ⟨fu_l1, rfl, ?_⟩
              rw [pReadInt_l1] at h
              refine W_seq ?_
              refine W_reg hT ftL_nil [] [] [4, 32, 33, 34, 35] [0] (s' := ⟨[(4, .c (.s (.k .i64 i4_2))), (32, .c (.wh 0)), (33, .c (.s (.k .i64 (((l0.length - 1) : Nat) : Int)))), (34, .c (.s (.k .i64 i34_2))), (35, .c (.s (.b (decide (i34_2 < (((l0.length - 1) : Nat) : Int))))))], [], [⟨(.ro false), 5, 1, (l0.length - 1), .b ((l0.drop 1).take (l0.length - 1))⟩]⟩) (by kernel_rfl) allP_nil ?_
              refine W_seq ?_
              refine W_cond (b := (decide (i34_2 < (((l0.length - 1) : Nat) : Int)))) (by kernel_rfl) (fun g15 => ?_) (fun g15 => ?_)
              · replace h := bif_t h g15
                refine W_co [] [4, 32, 33, 34] [0] (s' := ⟨[(4, .c (.s (.k .i64 i4_2))), (32, .c (.wh 0)), (33, .c (.s (.k .i64 (((l0.length - 1) : Nat) : Int)))), (34, .c (.s (.k .i64 i34_2)))], [], [⟨(.ro false), 5, 1, (l0.length - 1), .b ((l0.drop 1).take (l0.length - 1))⟩]⟩) (by kernel_rfl) (W_skip ?_)
                refine W_seq ?_
                refine W_block ?_
                refine W_seq ?_
                obtain ⟨g9, h⟩ := gd_some h
                obtain ⟨g10, h⟩ := gd_some h
                refine W_reg hT ftL_nil [] [] [4, 6, 32, 33, 34] [0] (s' := ⟨[(4, .c (.s (.k .i64 i4_2))), (6, .c (.s (.u8 (((l0.drop 1).take (l0.length - 1)).getD i34_2.toNat 0)))), (32, .c (.wh 0)), (33, .c (.s (.k .i64 (((l0.length - 1) : Nat) : Int)))), (34, .c (.s (.k .i64 i34_2)))], [], [⟨(.ro false), 5, 1, (l0.length - 1), .b ((l0.drop 1).take (l0.length - 1))⟩]⟩) (by kernel_rfl) (allP_cons.2 ⟨g9, (allP_cons.2 ⟨g10, allP_nil⟩)⟩) ?_
                obtain ⟨g11, h⟩ := gd_some h
                obtain ⟨g12, h⟩ := gd_some h
                obtain ⟨g13, h⟩ := gd_some h
                refine W_reg hT ftL_nil [] [] [4, 32, 33, 34] [0] (s' := ⟨[(4, .c (.s (.k .i64 (bitI .or .i64 (i4_2 * 2 ^ 8) (((((l0.drop 1).take (l0.length - 1)).getD i34_2.toNat 0).toNat : Nat) : Int))))), (32, .c (.wh 0)), (33, .c (.s (.k .i64 (((l0.length - 1) : Nat) : Int)))), (34, .c (.s (.k .i64 i34_2)))], [], [⟨(.ro false), 5, 1, (l0.length - 1), .b ((l0.drop 1).take (l0.length - 1))⟩]⟩) (by kernel_rfl) (allP_cons.2 ⟨g11, (allP_cons.2 ⟨g12, (allP_cons.2 ⟨g13, allP_nil⟩)⟩)⟩) ?_
                obtain ⟨g14, h⟩ := gd_some h
                refine W_reg hT ftL_nil [] [] [4, 32, 33, 34] [0] (s' := (pReadInt_l1_E l0 (bitI .or .i64 (i4_2 * 2 ^ 8) (((((l0.drop 1).take (l0.length - 1)).getD i34_2.toNat 0).toNat : Nat) : Int)) (i34_2 + 1))) (by kernel_rfl) (allP_cons.2 ⟨g14, allP_nil⟩) ?_
                exact pReadInt_l1_M h
              · replace h := bif_f h g15
                refine W_co [] [4] [] (s' := ⟨[(4, .c (.s (.k .i64 i4_2)))], [], []⟩) (by kernel_rfl) (W_exit ?_)
                refine W_seq ?_
                refine W_reg hT ftL_nil [] [] [2, 3] [] (s' := ⟨[(2, .c (.s (.k .i64 i4_2))), (3, .c (.s (.v .nilIface)))], [], []⟩) (by kernel_rfl) allP_nil ?_
                refine W_co [.er 3 31 .i64] [2, 3] [] (s' := (pReadInt_R (i4_2, none))) (by kernel_rfl) (W_ret ?_)
                exact ⟨.inl rfl, by cases h; rfl⟩
      · replace h := bif_f h g2
        refine W_reg hT ftL_nil [(3, false), (7, false)] [] [0, 7] [0] (s' := ⟨[(0, .c (.wh 0)), (7, .c (.s (.b false)))], [], [⟨(.ro false), 5, 1, l0.length, .b l0⟩]⟩) (by kernel_rfl) (allP_cons.2 ⟨g1, (allP_cons.2 ⟨g2, allP_nil⟩)⟩) ?_
        refine W_cond (b := false) (by kernel_rfl) (fun hb => by cases hb) (fun _ => ?_)
        refine W_seq ?_
        refine W_reg hT ftL_nil [] [] [0, 21] [0] (s' := ⟨[(0, .c (.wh 0)), (21, .c (.s (.b (decide ((8 : Int) < ((l0.length : Nat) : Int))))))], [], [⟨(.ro false), 5, 1, l0.length, .b l0⟩]⟩) (by kernel_rfl) allP_nil ?_
        refine W_cond (b := (decide ((8 : Int) < ((l0.length : Nat) : Int)))) (by kernel_rfl) (fun g30 => ?_) (fun g30 => ?_)
        · replace h := bif_t h g30
          refine W_seq ?_
          refine W_reg hT ftL_nil [] [] [2, 3] [] (s' := ⟨[(2, .c (.s (.k .i64 0))), (3, .c (.s (.er 31 .i64 (some 4))))], [], []⟩) (by kernel_rfl) allP_nil ?_
          refine W_co [] [2, 3] [] (s' := (pReadInt_R (0, (some 4)))) (by kernel_rfl) (W_ret ?_)
          exact ⟨.inl rfl, by cases h; rfl⟩
        · replace h := bif_f h g30
          refine W_co [] [0] [0] (s' := ⟨[(0, .c (.wh 0))], [], [⟨(.ro false), 5, 1, l0.length, .b l0⟩]⟩) (by kernel_rfl) (W_skip ?_)
          refine W_seq ?_
          obtain ⟨g18, h⟩ := gd_some h
          obtain ⟨g19, h⟩ := gd_some h
          obtain ⟨g20, h⟩ := gd_some h
          refine W_reg hT ftL_nil [] [] [0, 4] [0] (s' := ⟨[(0, .c (.wh 0)), (4, .c (.s (.k .i64 (IntKind.i8.wrap (((l0.getD 0 0).toNat : Nat) : Int)))))], [], [⟨(.ro false), 5, 1, l0.length, .b l0⟩]⟩) (by kernel_rfl) (allP_cons.2 ⟨g18, (allP_cons.2 ⟨g19, (allP_cons.2 ⟨g20, allP_nil⟩)⟩)⟩) ?_
          refine W_seq ?_
          refine W_seq ?_
          obtain ⟨g21, h⟩ := gd_some h
          obtain ⟨g22, h⟩ := gd_some h
          refine W_reg hT ftL_nil [] [] [4, 32, 33, 34] [0] (s' := ⟨[(4, .c (.s (.k .i64 (IntKind.i8.wrap (((l0.getD 0 0).toNat : Nat) : Int))))), (32, .c (.sl 0 1 (l0.length - 1))), (33, .c (.s (.k .i64 (((l0.length - 1) : Nat) : Int)))), (34, .c (.s (.k .i64 0)))], [], [⟨(.ro false), 5, 1, l0.length, .b l0⟩]⟩) (by kernel_rfl) (allP_cons.2 ⟨g21, (allP_cons.2 ⟨g22, allP_nil⟩)⟩) ?_
          refine W_block ?_
          refine W_co [.vw 32 false] [4, 32, 33, 34] [1] (s' := (pReadInt_l2_E l0 (IntKind.i8.wrap (((l0.getD 0 0).toNat : Nat) : Int)) 0)) (by kernel_rfl) (W_lp ((pReadInt_l2_P n l0 r)) n (pReadInt_l2_M h) ?_)
          rintro fu_l2 _ ⟨i4_3, i34_3, rfl, h⟩
          cases fu_l2 with
          | zero => cases h
          | succ fu_l2 =>
            refine ⟨fu_l2, rfl, ?_⟩
            rw [pReadInt_l2] at h
            refine W_seq ?_
            refine W_reg hT ftL_nil [] [] [4, 32, 33, 34, 35] [0] (s' := ⟨[(4, .c (.s (.k .i64 i4_3))), (32, .c (.wh 0)), (33, .c (.s (.k .i64 (((l0.length - 1) : Nat) : Int)))), (34, .c (.s (.k .i64 i34_3))), (35, .c (.s (.b (decide (i34_3 < (((l0.length - 1) : Nat) : Int))))))], [], [⟨(.ro false), 5, 1, (l0.length - 1), .b ((l0.drop 1).take (l0.length - 1))⟩]⟩) (by kernel_rfl) allP_nil ?_
            refine W_seq ?_
            refine W_cond (b := (decide (i34_3 < (((l0.length - 1) : Nat) : Int)))) (by kernel_rfl) (fun g29 => ?_) (fun g29 => ?_)
            · replace h := bif_t h g29
              refine W_co [] [4, 32, 33, 34] [0] (s' := ⟨[(4, .c (.s (.k .i64 i4_3))), (32, .c (.wh 0)), (33, .c (.s (.k .i64 (((l0.length - 1) : Nat) : Int)))), (34, .c (.s (.k .i64 i34_3)))], [], [⟨(.ro false), 5, 1, (l0.length - 1), .b ((l0.drop 1).take (l0.length - 1))⟩]⟩) (by kernel_rfl) (W_skip ?_)
              refine W_seq ?_
              refine W_block ?_
              refine W_seq ?_
              obtain ⟨g23, h⟩ := gd_some h
              obtain ⟨g24, h⟩ := gd_some h
              refine W_reg hT ftL_nil [] [] [4, 6, 32, 33, 34] [0] (s' := ⟨[(4, .c (.s (.k .i64 i4_3))), (6, .c (.s (.u8 (((l0.drop 1).take (l0.length - 1)).getD i34_3.toNat 0)))), (32, .c (.wh 0)), (33, .c (.s (.k .i64 (((l0.length - 1) : Nat) : Int)))), (34, .c (.s (.k .i64 i34_3)))], [], [⟨(.ro false), 5, 1, (l0.length - 1), .b ((l0.drop 1).take (l0.length - 1))⟩]⟩) (by kernel_rfl) (allP_cons.2 ⟨g23, (allP_cons.2 ⟨g24, allP_nil⟩)⟩) ?_
              obtain ⟨g25, h⟩ := gd_some h
              obtain ⟨g26, h⟩ := gd_some h
              obtain ⟨g27, h⟩ := gd_some h
              refine W_reg hT ftL_nil [] [] [4, 32, 33, 34] [0] (s' := ⟨[(4, .c (.s (.k .i64 (bitI .or .i64 (i4_3 * 2 ^ 8) (((((l0.drop 1).take (l0.length - 1)).getD i34_3.toNat 0).toNat : Nat) : Int))))), (32, .c (.wh 0)), (33, .c (.s (.k .i64 (((l0.length - 1) : Nat) : Int)))), (34, .c (.s (.k .i64 i34_3)))], [], [⟨(.ro false), 5, 1, (l0.length - 1), .b ((l0.drop 1).take (l0.length - 1))⟩]⟩) (by kernel_rfl) (allP_cons.2 ⟨g25, (allP_cons.2 ⟨g26, (allP_cons.2 ⟨g27, allP_nil⟩)⟩)⟩) ?_
              obtain ⟨g28, h⟩ := gd_some h
              refine W_reg hT ftL_nil [] [] [4, 32, 33, 34] [0] (s' := (pReadInt_l2_E l0 (bitI .or .i64 (i4_3 * 2 ^ 8) (((((l0.drop 1).take (l0.length - 1)).getD i34_3.toNat 0).toNat : Nat) : Int)) (i34_3 + 1))) (by kernel_rfl) (allP_cons.2 ⟨g28, allP_nil⟩) ?_
              exact pReadInt_l2_M h
            · replace h := bif_f h g29
              refine W_co [] [4] [] (s' := ⟨[(4, .c (.s (.k .i64 i4_3)))], [], []⟩) (by kernel_rfl) (W_exit ?_)
              refine W_seq ?_
              refine W_reg hT ftL_nil [] [] [2, 3] [] (s' := ⟨[(2, .c (.s (.k .i64 i4_3))), (3, .c (.s (.v .nilIface)))], [], []⟩) (by kernel_rfl) allP_nil ?_
              refine W_co [.er 3 31 .i64] [2, 3] [] (s' := (pReadInt_R (i4_3, none))) (by kernel_rfl) (W_ret ?_)
              exact ⟨.inl rfl, by cases h; rfl⟩
  · rintro e s' ⟨he, rfl⟩
    refine ⟨he, fun a' w' hr => ?_⟩
    exact retS_ok tabO_pr hr (rs := [.tmp 2, .tmp 3]) rfl (objs := []) (by kernel_rfl)
def pident_R (r : Bool) : S := ⟨[(2, .c (.s (.b r)))], [], []⟩
def pident_ct (n : Nat) (r : Bool) : Ct := fun args H => match args with
  | [x0] => (match aW H x0 with | some l0 => some ([pident n l0 = some r], shA H.length (.c (.s (.b r))), shH H.length []) | none => none)
  | _ => none
theorem pident_ok (n : Nat) (r : Bool) : FnOk Try.prog Tr 64 (pident_ct n r) := by
  refine ⟨fun args H g av objs hF hg ρ w vals hG hp ha => ?_, _, Try.func64, by kernel_rfl, by kernel_rfl⟩
  obtain ⟨x0, rfl⟩ : ∃ x0, args = [x0] := by
    unfold pident_ct at hF; split at hF
    · exact ⟨_, rfl⟩
    · cases hF
  cases e0 : aW H x0 with
  | none => simp only [pident_ct, e0, reduceCtorEq] at hF
  | some l0 =>
  simp only [pident_ct, e0, Option.some.injEq, Prod.mk.injEq] at hF
  obtain ⟨rfl, rfl, rfl⟩ := hF
  obtain ⟨v0, vals, rfl, k0, ha⟩ := F2.inv ha
  obtain rfl := F2.inv0 ha
  have hI : ∀ w', Kp (noB (fun _ => undef)) w w' → Tr w' := fun _ hk => Tr.keep hk.below hG
  have h : pident n l0 = some r := hg
  obtain ⟨p0, s0, o0⟩ := aW_ok hp e0 (k0) 89
  have hR0 := rel0 (gv := (fun _ => undef)) (n := 31) (w := w) (args := [.c (.wh 0)]) (H := [⟨.ro false, 89, 1, l0.length, .w l0⟩]) (gl := []) (hpL (ps := [p0]) (F2.cons o0 F2.nil)) (allRo_ok rfl) (F2.cons s0 F2.nil) GlR.nil (by simp)
  clear ha hp hg k0 e0
  refine calls_W Try.func64 rfl rfl hR0 (Q := fun e s => (e = .ret ∨ e = .normal) ∧ s = pident_R r) ?_ ?_
  · clear hR0
    unfold pident at h
    have hT := tabO_pr
    refine W_seq ?_
    refine W_reg hT ftL_nil [] [] [0] [0] (s' := ⟨[(0, .c (.wh 0))], [], [⟨(.ro false), 89, 1, l0.length, .w l0⟩]⟩) (by kernel_rfl) allP_nil ?_
    refine W_seq ?_
    refine W_seq ?_
    rcases Bool.eq_false_or_eq_true (decide (((l0.length : Nat) : Int) < (2 : Int))) with g1 | g1
    · replace h := bif_t h g1
      refine W_reg hT ftL_nil [(3, true)] [] [0, 16] [0] (s' := ⟨[(0, .c (.wh 0)), (16, .c (.s (.b true)))], [], [⟨(.ro false), 89, 1, l0.length, .w l0⟩]⟩) (by kernel_rfl) (allP_cons.2 ⟨g1, allP_nil⟩) ?_
      refine W_cond (b := true) (by kernel_rfl) (fun _ => ?_) (fun hb => by cases hb)
      refine W_seq ?_
      refine W_reg hT ftL_nil [] [] [2] [] (s' := ⟨[(2, .c (.s (.b false)))], [], []⟩) (by kernel_rfl) allP_nil ?_
      refine W_co [] [2] [] (s' := (pident_R false)) (by kernel_rfl) (W_ret ?_)
      exact ⟨.inl rfl, by cases h; rfl⟩
    · replace h := bif_f h g1
      rcases Bool.eq_false_or_eq_true (decide ((16 : Int) < ((l0.length : Nat) : Int))) with g2 | g2
      · replace h := bif_t h g2
        refine W_reg hT ftL_nil [(3, false), (8, true)] [] [0, 16] [0] (s' := ⟨[(0, .c (.wh 0)), (16, .c (.s (.b true)))], [], [⟨(.ro false), 89, 1, l0.length, .w l0⟩]⟩) (by kernel_rfl) (allP_cons.2 ⟨g1, (allP_cons.2 ⟨g2, allP_nil⟩)⟩) ?_
        refine W_cond (b := true) (by kernel_rfl) (fun _ => ?_) (fun hb => by cases hb)
        refine W_seq ?_
        refine W_reg hT ftL_nil [] [] [2] [] (s' := ⟨[(2, .c (.s (.b false)))], [], []⟩) (by kernel_rfl) allP_nil ?_
        refine W_co [] [2] [] (s' := (pident_R false)) (by kernel_rfl) (W_ret ?_)
        exact ⟨.inl rfl, by cases h; rfl⟩
      · replace h := bif_f h g2
        obtain ⟨g3, h⟩ := gd_some h
        obtain ⟨g4, h⟩ := gd_some h
        refine W_reg hT ftL_nil [(3, false), (8, false)] [] [0, 16] [0] (s' := ⟨[(0, .c (.wh 0)), (16, .c (.s (.b (decide ((2 : UInt32) < (l0.getD 0 0))))))], [], [⟨(.ro false), 89, 1, l0.length, .w l0⟩]⟩) (by kernel_rfl) (allP_cons.2 ⟨g1, (allP_cons.2 ⟨g2, (allP_cons.2 ⟨g3, (allP_cons.2 ⟨g4, allP_nil⟩)⟩)⟩)⟩) ?_
        refine W_cond (b := (decide ((2 : UInt32) < (l0.getD 0 0)))) (by kernel_rfl) (fun g12 => ?_) (fun g12 => ?_)
        · replace h := bif_t h g12
          refine W_seq ?_
          refine W_reg hT ftL_nil [] [] [2] [] (s' := ⟨[(2, .c (.s (.b false)))], [], []⟩) (by kernel_rfl) allP_nil ?_
          refine W_co [] [2] [] (s' := (pident_R false)) (by kernel_rfl) (W_ret ?_)
          exact ⟨.inl rfl, by cases h; rfl⟩
        · replace h := bif_f h g12
          refine W_co [] [0] [0] (s' := ⟨[(0, .c (.wh 0))], [], [⟨(.ro false), 89, 1, l0.length, .w l0⟩]⟩) (by kernel_rfl) (W_skip ?_)
          refine W_seq ?_
          refine W_seq ?_
          obtain ⟨g5, h⟩ := gd_some h
          obtain ⟨g6, h⟩ := gd_some h
          refine W_reg hT ftL_nil [] [] [0, 20] [0] (s' := ⟨[(0, .c (.wh 0)), (20, .c (.s (.b (decide ((l0.getD 0 0) < (2 : UInt32))))))], [], [⟨(.ro false), 89, 1, l0.length, .w l0⟩]⟩) (by kernel_rfl) (allP_cons.2 ⟨g5, (allP_cons.2 ⟨g6, allP_nil⟩)⟩) ?_
          refine W_cond (b := (decide ((l0.getD 0 0) < (2 : UInt32)))) (by kernel_rfl) (fun g11 => ?_) (fun g11 => ?_)
          · replace h := bif_t h g11
            refine W_seq ?_
            obtain ⟨g7, h⟩ := gd_some h
            obtain ⟨g8, h⟩ := gd_some h
            refine W_reg hT ftL_nil [] [] [2] [] (s' := ⟨[(2, .c (.s (.b (decide ((l0.getD 1 0) < (40 : UInt32))))))], [], []⟩) (by kernel_rfl) (allP_cons.2 ⟨g7, (allP_cons.2 ⟨g8, allP_nil⟩)⟩) ?_
            refine W_co [] [2] [] (s' := (pident_R (decide ((l0.getD 1 0) < (40 : UInt32))))) (by kernel_rfl) (W_ret ?_)
            exact ⟨.inl rfl, by cases h; rfl⟩
          · replace h := bif_f h g11
            refine W_co [] [0] [0] (s' := ⟨[(0, .c (.wh 0))], [], [⟨(.ro false), 89, 1, l0.length, .w l0⟩]⟩) (by kernel_rfl) (W_skip ?_)
            refine W_seq ?_
            obtain ⟨g9, h⟩ := gd_some h
            obtain ⟨g10, h⟩ := gd_some h
            refine W_reg hT ftL_nil [] [] [2] [] (s' := ⟨[(2, .c (.s (.b (decide ((((l0.getD 1 0).toUInt64) + (80 : UInt64)) < (4294967296 : UInt64))))))], [], []⟩) (by kernel_rfl) (allP_cons.2 ⟨g9, (allP_cons.2 ⟨g10, allP_nil⟩)⟩) ?_
            refine W_co [] [2] [] (s' := (pident_R (decide ((((l0.getD 1 0).toUInt64) + (80 : UInt64)) < (4294967296 : UInt64))))) (by kernel_rfl) (W_ret ?_)
            exact ⟨.inl rfl, by cases h; rfl⟩
  · rintro e s' ⟨he, rfl⟩
    refine ⟨he, fun a' w' hr => ?_⟩
    exact retS_ok tabO_pr hr (rs := [.tmp 2]) rfl (objs := []) (by kernel_rfl)
def pOid_l1_E (a0 : List UInt32) (l4_1 : List UInt8) (i23_1 : Int) : S := ⟨[(4, .c (.wh 0)), (21, .c (.wh 1)), (22, .c (.s (.k .i64 (((a0.length - 2) : Nat) : Int)))), (23, .c (.s (.k .i64 i23_1)))], [], [⟨.row, 5, 1, l4_1.length, .b l4_1⟩, ⟨(.ro false), 89, 1, (a0.length - 2), .w ((a0.drop 2).take (a0.length - 2))⟩]⟩
def pOid_l1_P (n : Nat) (a0 : List UInt32) (r : List UInt8 × Option Int) (fu : Nat) : S → Prop := fun s => ∃ (l4_1 : List UInt8), ∃ (i23_1 : Int), s = pOid_l1_E a0 l4_1 i23_1 ∧ pOid_l1 n a0 fu l4_1 i23_1 = some r
theorem pOid_l1_M {n : Nat} {a0 : List UInt32} {l4_1 : List UInt8} {i23_1 : Int} {r : List UInt8 × Option Int} {fu : Nat} (h : pOid_l1 n a0 fu l4_1 i23_1 = some r) : pOid_l1_P n a0 r fu (pOid_l1_E a0 l4_1 i23_1) := ⟨l4_1, i23_1, rfl, h⟩
def pOid_R (r : List UInt8 × Option Int) : S := ⟨[(2, .c (.wh 0)), (3, .c (.s (.er 31 .i64 r.2)))], [], [⟨.row, 5, 1, r.1.length, .b r.1⟩]⟩
def pOid_ct (n : Nat) (r : List UInt8 × Option Int) : Ct := fun args H => match args with
  | [x0] => (match aW H x0 with | some l0 => some ([pOid n l0 = some r], shA H.length (.t [.c (.wh 0), .c (.s (.er 31 .i64 r.2))]), shH H.length [⟨.row, 5, 1, r.1.length, .b r.1⟩]) | none => none)
  | _ => none
theorem pOid_ok (n : Nat) (r : List UInt8 × Option Int) : FnOk Try.prog Tr 32 (pOid_ct n r) := by
  refine ⟨fun args H g av objs hF hg ρ w vals hG hp ha => ?_, _, Try.func32, by kernel_rfl, by kernel_rfl⟩
  obtain ⟨x0, rfl⟩ : ∃ x0, args = [x0] := by
    unfold pOid_ct at hF; split at hF
    · exact ⟨_, rfl⟩
    · cases hF
  cases e0 : aW H x0 with
  | none => simp only [pOid_ct, e0, reduceCtorEq] at hF
  | some l0 =>
  simp only [pOid_ct, e0, Option.some.injEq, Prod.mk.injEq] at hF
  obtain ⟨rfl, rfl, rfl⟩ := hF
  obtain ⟨v0, vals, rfl, k0, ha⟩ := F2.inv ha
  obtain rfl := F2.inv0 ha
  have hI : ∀ w', Kp (noB (fun _ => undef)) w w' → Tr w' := fun _ hk => Tr.keep hk.below hG
  have h : pOid n l0 = some r := hg
  obtain ⟨p0, s0, o0⟩ := aW_ok hp e0 (k0) 89
  have hR0 := rel0 (gv := (fun _ => undef)) (n := 33) (w := w) (args := [.c (.wh 0)]) (H := [⟨.ro false, 89, 1, l0.length, .w l0⟩]) (gl := []) (hpL (ps := [p0]) (F2.cons o0 F2.nil)) (allRo_ok rfl) (F2.cons s0 F2.nil) GlR.nil (by simp)
  clear ha hp hg k0 e0
  refine calls_W Try.func32 rfl rfl hR0 (Q := fun e s => (e = .ret ∨ e = .normal) ∧ s = pOid_R r) ?_ ?_
  · clear hR0
    unfold pOid at h
    have hT := tabO_pr
    refine W_seq ?_
    refine W_reg hT ftL_nil [] [] [0] [0] (s' := ⟨[(0, .c (.wh 0))], [], [⟨(.ro false), 89, 1, l0.length, .w l0⟩]⟩) (by kernel_rfl) allP_nil ?_
    refine W_seq ?_
    refine W_seq ?_
    obtain ⟨r8, g1, h⟩ := bind_some' h
    refine W_reg hT (ftL_cons (k := 1) (f := 64) (F := (pident_ct n r8)) (pident_ok n r8) (fun _ _ => True.intro) ftL_nil) [] [] [0, 9] [0] (s' := ⟨[(0, .c (.wh 0)), (9, .c (.s (.b (!r8))))], [], [⟨(.ro false), 89, 1, l0.length, .w l0⟩]⟩) (by kernel_rfl) (allP_cons.2 ⟨g1, allP_nil⟩) ?_
    refine W_cond (b := (!r8)) (by kernel_rfl) (fun g13 => ?_) (fun g13 => ?_)
    · replace h := bif_t h g13
      refine W_seq ?_
      refine W_reg hT ftL_nil [] [] [2, 3] [] (s' := ⟨[(2, .c (.nils)), (3, .c (.s (.er 31 .i64 (some 1))))], [], []⟩) (by kernel_rfl) allP_nil ?_
      refine W_co [.nil 2 5 1 (.b [])] [2, 3] [0] (s' := (pOid_R ([], (some 1)))) (by kernel_rfl) (W_ret ?_)
      exact ⟨.inl rfl, by cases h; rfl⟩
    · replace h := bif_f h g13
      refine W_co [] [0] [0] (s' := ⟨[(0, .c (.wh 0))], [], [⟨(.ro false), 89, 1, l0.length, .w l0⟩]⟩) (by kernel_rfl) (W_skip ?_)
      refine W_seq ?_
      obtain ⟨g2, h⟩ := gd_some h
      obtain ⟨g3, h⟩ := gd_some h
      obtain ⟨g4, h⟩ := gd_some h
      obtain ⟨g5, h⟩ := gd_some h
      refine W_regD hT (ftL_cons (k := 8) (f := 65) (F := group_ct) group_h (fun _ _ => True.intro) ftL_nil) (by kernel_rfl) 7 [] [(0, false), (14, false), (17, false)] [] [0, 4] [0, 1] (s' := ⟨[(0, .c (.wh 0)), (4, .c (.wh 1))], [], [⟨(.ro false), 89, 1, l0.length, .w l0⟩, ⟨.row, 5, 1, (grp (((40 : UInt32) * (l0.getD 0 0)) + (l0.getD 1 0))).length, .b (grp (((40 : UInt32) * (l0.getD 0 0)) + (l0.getD 1 0)))⟩]⟩) (by kernel_rfl) (by kernel_rfl) (allP_cons.2 ⟨g2, (allP_cons.2 ⟨g3, (allP_cons.2 ⟨g4, (allP_cons.2 ⟨g5, allP_nil⟩)⟩)⟩)⟩) ?_
      refine W_seq ?_
      refine W_seq ?_
      obtain ⟨g6, h⟩ := gd_some h
      obtain ⟨g7, h⟩ := gd_some h
      refine W_reg hT ftL_nil [] [] [4, 21, 22, 23] [1, 0] (s' := ⟨[(4, .c (.wh 0)), (21, .c (.sl 1 2 (l0.length - 2))), (22, .c (.s (.k .i64 (((l0.length - 2) : Nat) : Int)))), (23, .c (.s (.k .i64 0)))], [], [⟨.row, 5, 1, (grp (((40 : UInt32) * (l0.getD 0 0)) + (l0.getD 1 0))).length, .b (grp (((40 : UInt32) * (l0.getD 0 0)) + (l0.getD 1 0)))⟩, ⟨(.ro false), 89, 1, l0.length, .w l0⟩]⟩) (by kernel_rfl) (allP_cons.2 ⟨g6, (allP_cons.2 ⟨g7, allP_nil⟩)⟩) ?_
      refine W_block ?_
      refine W_co [.vw 21 false] [4, 21, 22, 23] [0, 2] (s' := (pOid_l1_E l0 (grp (((40 : UInt32) * (l0.getD 0 0)) + (l0.getD 1 0))) 0)) (by kernel_rfl) (W_lp ((pOid_l1_P n l0 r)) n (pOid_l1_M h) ?_)
      rintro fu_l1 _ ⟨l4_1, i23_1, rfl, h⟩
      cases fu_l1 with
      | zero => cases h
      | succ fu_l1 =>
        refine ⟨fu_l1, rfl, ?_⟩
        rw [pOid_l1] at h
        refine W_seq ?_
        refine W_reg hT ftL_nil [] [] [4, 21, 22, 23, 24] [0, 1] (s' := ⟨[(4, .c (.wh 0)), (21, .c (.wh 1)), (22, .c (.s (.k .i64 (((l0.length - 2) : Nat) : Int)))), (23, .c (.s (.k .i64 i23_1))), (24, .c (.s (.b (decide (i23_1 < (((l0.length - 2) : Nat) : Int))))))], [], [⟨.row, 5, 1, l4_1.length, .b l4_1⟩, ⟨(.ro false), 89, 1, (l0.length - 2), .w ((l0.drop 2).take (l0.length - 2))⟩]⟩) (by kernel_rfl) allP_nil ?_
        refine W_seq ?_
        refine W_cond (b := (decide (i23_1 < (((l0.length - 2) : Nat) : Int)))) (by kernel_rfl) (fun g12 => ?_) (fun g12 => ?_)
        · replace h := bif_t h g12
          refine W_co [] [4, 21, 22, 23] [0, 1] (s' := ⟨[(4, .c (.wh 0)), (21, .c (.wh 1)), (22, .c (.s (.k .i64 (((l0.length - 2) : Nat) : Int)))), (23, .c (.s (.k .i64 i23_1)))], [], [⟨.row, 5, 1, l4_1.length, .b l4_1⟩, ⟨(.ro false), 89, 1, (l0.length - 2), .w ((l0.drop 2).take (l0.length - 2))⟩]⟩) (by kernel_rfl) (W_skip ?_)
          refine W_seq ?_
          refine W_block ?_
          refine W_seq ?_
          obtain ⟨g8, h⟩ := gd_some h
          obtain ⟨g9, h⟩ := gd_some h
          refine W_reg hT ftL_nil [] [] [4, 6, 21, 22, 23] [0, 1] (s' := ⟨[(4, .c (.wh 0)), (6, .c (.s (.u32 (((l0.drop 2).take (l0.length - 2)).getD i23_1.toNat 0)))), (21, .c (.wh 1)), (22, .c (.s (.k .i64 (((l0.length - 2) : Nat) : Int)))), (23, .c (.s (.k .i64 i23_1)))], [], [⟨.row, 5, 1, l4_1.length, .b l4_1⟩, ⟨(.ro false), 89, 1, (l0.length - 2), .w ((l0.drop 2).take (l0.length - 2))⟩]⟩) (by kernel_rfl) (allP_cons.2 ⟨g8, (allP_cons.2 ⟨g9, allP_nil⟩)⟩) ?_
          obtain ⟨g10, h⟩ := gd_some h
          refine W_reg hT (ftL_cons (k := 2) (f := 65) (F := group_ct) group_h (fun _ _ => True.intro) ftL_nil) [] [] [4, 21, 22, 23] [3, 1] (s' := ⟨[(4, .c (.wh 0)), (21, .c (.wh 1)), (22, .c (.s (.k .i64 (((l0.length - 2) : Nat) : Int)))), (23, .c (.s (.k .i64 i23_1)))], [], [⟨.row, 5, 1, (l4_1 ++ (grp (((l0.drop 2).take (l0.length - 2)).getD i23_1.toNat 0))).length, .b (l4_1 ++ (grp (((l0.drop 2).take (l0.length - 2)).getD i23_1.toNat 0)))⟩, ⟨(.ro false), 89, 1, (l0.length - 2), .w ((l0.drop 2).take (l0.length - 2))⟩]⟩) (by kernel_rfl) (allP_cons.2 ⟨g10, allP_nil⟩) ?_
          obtain ⟨g11, h⟩ := gd_some h
          refine W_reg hT ftL_nil [] [] [4, 21, 22, 23] [0, 1] (s' := (pOid_l1_E l0 (l4_1 ++ (grp (((l0.drop 2).take (l0.length - 2)).getD i23_1.toNat 0))) (i23_1 + 1))) (by kernel_rfl) (allP_cons.2 ⟨g11, allP_nil⟩) ?_
          exact pOid_l1_M h
        · replace h := bif_f h g12
          refine W_co [] [4] [0] (s' := ⟨[(4, .c (.wh 0))], [], [⟨.row, 5, 1, l4_1.length, .b l4_1⟩]⟩) (by kernel_rfl) (W_exit ?_)
          refine W_seq ?_
          refine W_reg hT ftL_nil [] [] [2, 3] [0] (s' := ⟨[(2, .c (.wh 0)), (3, .c (.s (.v .nilIface)))], [], [⟨.row, 5, 1, l4_1.length, .b l4_1⟩]⟩) (by kernel_rfl) allP_nil ?_
          refine W_co [.er 3 31 .i64] [2, 3] [0] (s' := (pOid_R (l4_1, none))) (by kernel_rfl) (W_ret ?_)
          exact ⟨.inl rfl, by cases h; rfl⟩
  · rintro e s' ⟨he, rfl⟩
    refine ⟨he, fun a' w' hr => ?_⟩
    exact retS_ok tabO_pr hr (rs := [.tmp 2, .tmp 3]) rfl (objs := [0]) (by kernel_rfl)
def pleap_R (r : Bool) : S := ⟨[(2, .c (.s (.b r)))], [], []⟩
def pleap_ct (n : Nat) (r : Bool) : Ct := fun args H => match args with
  | [x0] => (match aI x0 with | some l0 => some ([pleap n l0 = some r], shA H.length (.c (.s (.b r))), shH H.length []) | none => none)
  | _ => none
theorem pleap_ok (n : Nat) (r : Bool) : FnOk Try.prog Tr 76 (pleap_ct n r) := by
  refine ⟨fun args H g av objs hF hg ρ w vals hG hp ha => ?_, _, Try.func76, by kernel_rfl, by kernel_rfl⟩
  obtain ⟨x0, rfl⟩ : ∃ x0, args = [x0] := by
    unfold pleap_ct at hF; split at hF
    · exact ⟨_, rfl⟩
    · cases hF
  cases e0 : aI x0 with
  | none => simp only [pleap_ct, e0, reduceCtorEq] at hF
  | some l0 =>
  simp only [pleap_ct, e0, Option.some.injEq, Prod.mk.injEq] at hF
  obtain ⟨rfl, rfl, rfl⟩ := hF
  obtain ⟨v0, vals, rfl, k0, ha⟩ := F2.inv ha
  obtain rfl := F2.inv0 ha
  have hI : ∀ w', Kp (noB (fun _ => undef)) w w' → Tr w' := fun _ hk => Tr.keep hk.below hG
  have h : pleap n l0 = some r := hg
  have s0 := aI_ok e0 (k0)
  have hR0 := rel0 (gv := (fun _ => undef)) (n := 16) (w := w) (args := [.c (.s (.k .i64 l0))]) (H := []) (gl := []) (hpL (ps := []) F2.nil) (allRo_ok rfl) (F2.cons s0 F2.nil) GlR.nil (by simp)
  clear ha hp hg k0 e0
  refine calls_W Try.func76 rfl rfl hR0 (Q := fun e s => (e = .ret ∨ e = .normal) ∧ s = pleap_R r) ?_ ?_
  · clear hR0
    unfold pleap at h
    have hT := tabO_pr
    refine W_seq ?_
    refine W_reg hT ftL_nil [] [] [0] [] (s' := ⟨[(0, .c (.s (.k .i64 l0)))], [], []⟩) (by kernel_rfl) allP_nil ?_
    refine W_seq ?_
    obtain ⟨g1, h⟩ := gd_some h
    rcases Bool.eq_false_or_eq_true ((Int.tmod l0 4) == 0) with g2 | g2
    · replace h := bif_t h g2
      obtain ⟨g3, h⟩ := gd_some h
      rcases Bool.eq_false_or_eq_true ((Int.tmod l0 100) != 0) with g4 | g4
      · replace h := bif_t h g4
        refine W_reg hT ftL_nil [(3, true), (7, true)] [] [2] [] (s' := ⟨[(2, .c (.s (.b true)))], [], []⟩) (by kernel_rfl) (allP_cons.2 ⟨g1, (allP_cons.2 ⟨g2, (allP_cons.2 ⟨g3, (allP_cons.2 ⟨g4, allP_nil⟩)⟩)⟩)⟩) ?_
        refine W_co [] [2] [] (s' := (pleap_R true)) (by kernel_rfl) (W_ret ?_)
        exact ⟨.inl rfl, by cases h; rfl⟩
      · replace h := bif_f h g4
        obtain ⟨g5, h⟩ := gd_some h
        refine W_reg hT ftL_nil [(3, true), (7, false)] [] [2] [] (s' := ⟨[(2, .c (.s (.b ((Int.tmod l0 400) == 0))))], [], []⟩) (by kernel_rfl) (allP_cons.2 ⟨g1, (allP_cons.2 ⟨g2, (allP_cons.2 ⟨g3, (allP_cons.2 ⟨g4, (allP_cons.2 ⟨g5, allP_nil⟩)⟩)⟩)⟩)⟩) ?_
        refine W_co [] [2] [] (s' := (pleap_R ((Int.tmod l0 400) == 0))) (by kernel_rfl) (W_ret ?_)
        exact ⟨.inl rfl, by cases h; rfl⟩
    · replace h := bif_f h g2
      refine W_reg hT ftL_nil [(3, false)] [] [2] [] (s' := ⟨[(2, .c (.s (.b false)))], [], []⟩) (by kernel_rfl) (allP_cons.2 ⟨g1, (allP_cons.2 ⟨g2, allP_nil⟩)⟩) ?_
      refine W_co [] [2] [] (s' := (pleap_R false)) (by kernel_rfl) (W_ret ?_)
      exact ⟨.inl rfl, by cases h; rfl⟩
  · rintro e s' ⟨he, rfl⟩
    refine ⟨he, fun a' w' hr => ?_⟩
    exact retS_ok tabO_pr hr (rs := [.tmp 2]) rfl (objs := []) (by kernel_rfl)
def pdays_j1_E (a0 : Int) (a1 : Int) (p6_1 : Bool) : S := ⟨[(0, .c (.s (.k .i64 a0))), (5, .c (.s (.k .i64 a1))), (6, .c (.s (.b p6_1)))], [], []⟩
def pdays_j1_P (n : Nat) (a0 : Int) (a1 : Int) (r : Int) : S → Prop := fun s => ∃ (p6_1 : Bool), s = pdays_j1_E a0 a1 p6_1 ∧ pdays_j1 n a0 a1 p6_1 = some r
theorem pdays_j1_M {n : Nat} {a0 : Int} {a1 : Int} {p6_1 : Bool} {r : Int} (h : pdays_j1 n a0 a1 p6_1 = some r) : pdays_j1_P n a0 a1 r (pdays_j1_E a0 a1 p6_1) := ⟨p6_1, rfl, h⟩
def pdays_R (r : Int) : S := ⟨[(4, .c (.s (.k .i64 r)))], [], []⟩
def pdays_ct (n : Nat) (r : Int) : Ct := fun args H => match args with
  | [x0, x1] => (match aI x0 with | some l0 => (match aI x1 with | some l1 => some ([pdays n l0 l1 = some r], shA H.length (.c (.s (.k .i64 r))), shH H.length []) | none => none) | none => none)
  | _ => none
theorem pdays_ok (n : Nat) (r : Int) : FnOk Try.prog Tr 52 (pdays_ct n r) := by
  refine ⟨fun args H g av objs hF hg ρ w vals hG hp ha => ?_, _, Try.func52, by kernel_rfl, by kernel_rfl⟩
  obtain ⟨x0, x1, rfl⟩ : ∃ x0 x1, args = [x0, x1] := by
    unfold pdays_ct at hF; split at hF
    · exact ⟨_, _, rfl⟩
    · cases hF
  cases e0 : aI x0 with
  | none => simp only [pdays_ct, e0, reduceCtorEq] at hF
  | some l0 =>
  cases e1 : aI x1 with
  | none => simp only [pdays_ct, e0, e1, reduceCtorEq] at hF
  | some l1 =>
  simp only [pdays_ct, e0, e1, Option.some.injEq, Prod.mk.injEq] at hF
  obtain ⟨rfl, rfl, rfl⟩ := hF
  obtain ⟨v0, vals, rfl, k0, ha⟩ := F2.inv ha
  obtain ⟨v1, vals, rfl, k1, ha⟩ := F2.inv ha
  obtain rfl := F2.inv0 ha
  have hI : ∀ w', Kp (noB (fun _ => undef)) w w' → Tr w' := fun _ hk => Tr.keep hk.below hG
  have h : pdays n l0 l1 = some r := hg
  have s0 := aI_ok e0 (k0)
  have s1 := aI_ok e1 (k1)
  have hR0 := rel0 (gv := (fun _ => undef)) (n := 15) (w := w) (args := [.c (.s (.k .i64 l0)), .c (.s (.k .i64 l1))]) (H := []) (gl := []) (hpL (ps := []) F2.nil) (allRo_ok rfl) (F2.cons s0 (F2.cons s1 F2.nil)) GlR.nil (by simp)
  clear ha hp hg k0 k1 e0 e1
  refine calls_W Try.func52 rfl rfl hR0 (Q := fun e s => (e = .ret ∨ e = .normal) ∧ s = pdays_R r) ?_ ?_
  · clear hR0
    unfold pdays at h
    have hT := tabO_pr
    refine W_seq ?_
    refine W_reg hT ftL_nil [] [] [0, 1] [] (s' := ⟨[(0, .c (.s (.k .i64 l0))), (1, .c (.s (.k .i64 l1)))], [], []⟩) (by kernel_rfl) allP_nil ?_
    refine W_seq ?_
    refine W_seq ?_
    refine W_reg hT ftL_nil [] [] [0, 5] [] (s' := ⟨[(0, .c (.s (.k .i64 l0))), (5, .c (.s (.k .i64 l1)))], [], []⟩) (by kernel_rfl) allP_nil ?_
    refine W_block ?_
    refine W_join (pdays_j1_P n l0 l1 r) ?_ ?_
    · rintro _ ⟨p6_1, rfl, h⟩
      unfold pdays_j1 at h
      refine W_cond (b := p6_1) (by kernel_rfl) (fun g4 => ?_) (fun g4 => ?_)
      · replace h := bif_t h g4
        refine W_seq ?_
        refine W_reg hT ftL_nil [] [] [4] [] (s' := ⟨[(4, .c (.s (.k .i64 30)))], [], []⟩) (by kernel_rfl) allP_nil ?_
        refine W_co [] [4] [] (s' := (pdays_R 30)) (by kernel_rfl) (W_ret ?_)
        exact ⟨.inl rfl, by cases h; rfl⟩
      · replace h := bif_f h g4
        refine W_seq ?_
        refine W_reg hT ftL_nil [] [] [0, 11] [] (s' := ⟨[(0, .c (.s (.k .i64 l0))), (11, .c (.s (.b (l1 == 2))))], [], []⟩) (by kernel_rfl) allP_nil ?_
        refine W_cond (b := (l1 == 2)) (by kernel_rfl) (fun g3 => ?_) (fun g3 => ?_)
        · replace h := bif_t h g3
          refine W_seq ?_
          refine W_seq ?_
          obtain ⟨r14, g1, h⟩ := bind_some' h
          refine W_reg hT (ftL_cons (k := 1) (f := 76) (F := (pleap_ct n r14)) (pleap_ok n r14) (fun _ _ => True.intro) ftL_nil) [] [] [14] [] (s' := ⟨[(14, .c (.s (.b r14)))], [], []⟩) (by kernel_rfl) (allP_cons.2 ⟨g1, allP_nil⟩) ?_
          refine W_cond (b := r14) (by kernel_rfl) (fun g2 => ?_) (fun g2 => ?_)
          · replace h := bif_t h g2
            refine W_seq ?_
            refine W_reg hT ftL_nil [] [] [4] [] (s' := ⟨[(4, .c (.s (.k .i64 29)))], [], []⟩) (by kernel_rfl) allP_nil ?_
            refine W_co [] [4] [] (s' := (pdays_R 29)) (by kernel_rfl) (W_ret ?_)
            exact ⟨.inl rfl, by cases h; rfl⟩
          · replace h := bif_f h g2
            refine W_co [] [] [] (s' := ⟨[], [], []⟩) (by kernel_rfl) (W_skip ?_)
            refine W_seq ?_
            refine W_reg hT ftL_nil [] [] [4] [] (s' := ⟨[(4, .c (.s (.k .i64 28)))], [], []⟩) (by kernel_rfl) allP_nil ?_
            refine W_co [] [4] [] (s' := (pdays_R 28)) (by kernel_rfl) (W_ret ?_)
            exact ⟨.inl rfl, by cases h; rfl⟩
        · replace h := bif_f h g3
          refine W_co [] [] [] (s' := ⟨[], [], []⟩) (by kernel_rfl) (W_skip ?_)
          refine W_seq ?_
          refine W_reg hT ftL_nil [] [] [4] [] (s' := ⟨[(4, .c (.s (.k .i64 31)))], [], []⟩) (by kernel_rfl) allP_nil ?_
          refine W_co [] [4] [] (s' := (pdays_R 31)) (by kernel_rfl) (W_ret ?_)
          exact ⟨.inl rfl, by cases h; rfl⟩
    · refine W_seq ?_
      refine W_reg hT ftL_nil [] [] [0, 5, 6] [] (s' := ⟨[(0, .c (.s (.k .i64 l0))), (5, .c (.s (.k .i64 l1))), (6, .c (.s (.b (l1 == 4))))], [], []⟩) (by kernel_rfl) allP_nil ?_
      refine W_cond (b := (l1 == 4)) (by kernel_rfl) (fun g7 => ?_) (fun g7 => ?_)
      · replace h := bif_t h g7
        refine W_co [] [0, 5, 6] [] (s' := (pdays_j1_E l0 l1 (l1 == 4))) (by kernel_rfl) (W_skip ?_)
        exact pdays_j1_M h
      · replace h := bif_f h g7
        refine W_seq ?_
        refine W_reg hT ftL_nil [] [] [0, 5, 6] [] (s' := ⟨[(0, .c (.s (.k .i64 l0))), (5, .c (.s (.k .i64 l1))), (6, .c (.s (.b (l1 == 6))))], [], []⟩) (by kernel_rfl) allP_nil ?_
        refine W_cond (b := (l1 == 6)) (by kernel_rfl) (fun g6 => ?_) (fun g6 => ?_)
        · replace h := bif_t h g6
          refine W_co [] [0, 5, 6] [] (s' := (pdays_j1_E l0 l1 (l1 == 6))) (by kernel_rfl) (W_skip ?_)
          exact pdays_j1_M h
        · replace h := bif_f h g6
          refine W_seq ?_
          refine W_reg hT ftL_nil [] [] [0, 5, 6] [] (s' := ⟨[(0, .c (.s (.k .i64 l0))), (5, .c (.s (.k .i64 l1))), (6, .c (.s (.b (l1 == 9))))], [], []⟩) (by kernel_rfl) allP_nil ?_
          refine W_cond (b := (l1 == 9)) (by kernel_rfl) (fun g5 => ?_) (fun g5 => ?_)
          · replace h := bif_t h g5
            refine W_co [] [0, 5, 6] [] (s' := (pdays_j1_E l0 l1 (l1 == 9))) (by kernel_rfl) (W_skip ?_)
            exact pdays_j1_M h
          · replace h := bif_f h g5
            refine W_reg hT ftL_nil [] [] [0, 5, 6] [] (s' := (pdays_j1_E l0 l1 (l1 == 11))) (by kernel_rfl) allP_nil ?_
            exact pdays_j1_M h
  · rintro e s' ⟨he, rfl⟩
    refine ⟨he, fun a' w' hr => ?_⟩
    exact retS_ok tabO_pr hr (rs := [.tmp 4]) rfl (objs := []) (by kernel_rfl)
def pvalid_R (r : Bool) : S := ⟨[(2, .c (.s (.b r)))], [], []⟩
def pvalid_ct (n : Nat) (r : Bool) : Ct := fun args H => match args with
  | [x0] => (match aGc 6 x0 with | some y0 => (match aI (.c (y0.getD 0 .junk)) with | some l0_0 => (match aI (.c (y0.getD 1 .junk)) with | some l0_1 => (match aI (.c (y0.getD 2 .junk)) with | some l0_2 => (match aI (.c (y0.getD 3 .junk)) with | some l0_3 => (match aI (.c (y0.getD 4 .junk)) with | some l0_4 => (match aI (.c (y0.getD 5 .junk)) with | some l0_5 => some ([pvalid n l0_0 l0_1 l0_2 l0_3 l0_4 l0_5 = some r], shA H.length (.c (.s (.b r))), shH H.length []) | none => none) | none => none) | none => none) | none => none) | none => none) | none => none) | none => none)
  | _ => none
theorem pvalid_ok (n : Nat) (r : Bool) : FnOk Try.prog Tr 50 (pvalid_ct n r) := by
  refine ⟨fun args H g av objs hF hg ρ w vals hG hp ha => ?_, _, Try.func50, by kernel_rfl, by kernel_rfl⟩
  obtain ⟨x0, rfl⟩ : ∃ x0, args = [x0] := by
    unfold pvalid_ct at hF; split at hF
    · exact ⟨_, rfl⟩
    · cases hF
  cases e0 : aGc 6 x0 with
  | none => simp only [pvalid_ct, e0, reduceCtorEq] at hF
  | some y0 =>
  cases e1 : aI (.c (y0.getD 0 .junk)) with
  | none => simp only [pvalid_ct, e0, e1, reduceCtorEq] at hF
  | some l0_0 =>
  cases e2 : aI (.c (y0.getD 1 .junk)) with
  | none => simp only [pvalid_ct, e0, e1, e2, reduceCtorEq] at hF
  | some l0_1 =>
  cases e3 : aI (.c (y0.getD 2 .junk)) with
  | none => simp only [pvalid_ct, e0, e1, e2, e3, reduceCtorEq] at hF
  | some l0_2 =>
  cases e4 : aI (.c (y0.getD 3 .junk)) with
  | none => simp only [pvalid_ct, e0, e1, e2, e3, e4, reduceCtorEq] at hF
  | some l0_3 =>
  cases e5 : aI (.c (y0.getD 4 .junk)) with
  | none => simp only [pvalid_ct, e0, e1, e2, e3, e4, e5, reduceCtorEq] at hF
  | some l0_4 =>
  cases e6 : aI (.c (y0.getD 5 .junk)) with
  | none => simp only [pvalid_ct, e0, e1, e2, e3, e4, e5, e6, reduceCtorEq] at hF
  | some l0_5 =>
  simp only [pvalid_ct, e0, e1, e2, e3, e4, e5, e6, Option.some.injEq, Prod.mk.injEq] at hF
  obtain ⟨rfl, rfl, rfl⟩ := hF
  obtain ⟨v0, vals, rfl, k0, ha⟩ := F2.inv ha
  obtain rfl := F2.inv0 ha
  have hI : ∀ w', Kp (noB (fun _ => undef)) w w' → Tr w' := fun _ hk => Tr.keep hk.below hG
  have h : pvalid n l0_0 l0_1 l0_2 l0_3 l0_4 l0_5 = some r := hg
  obtain ⟨vs0, hn0, rfl, hy0⟩ := aGc_ok e0 k0
  have s0_0 := aI_ok e1 (hy0 0 (by decide))
  have s0_1 := aI_ok e2 (hy0 1 (by decide))
  have s0_2 := aI_ok e3 (hy0 2 (by decide))
  have s0_3 := aI_ok e4 (hy0 3 (by decide))
  have s0_4 := aI_ok e5 (hy0 4 (by decide))
  have s0_5 := aI_ok e6 (hy0 5 (by decide))
  have hR0 := rel0 (gv := (fun _ => undef)) (n := 64) (w := w) (args := [.g 6 (.c [.s (.k .i64 l0_0), .s (.k .i64 l0_1), .s (.k .i64 l0_2), .s (.k .i64 l0_3), .s (.k .i64 l0_4), .s (.k .i64 l0_5)])]) (H := []) (gl := []) (hpL (ps := []) F2.nil) (allRo_ok rfl) (F2.cons ⟨vs0, (by rw [lstE undef hn0]; exact (F2.cons s0_0 (F2.cons s0_1 (F2.cons s0_2 (F2.cons s0_3 (F2.cons s0_4 (F2.cons s0_5 F2.nil))))))), hn0, rfl⟩ F2.nil) GlR.nil (by simp)
  clear ha hp hg k0 e0 e1 e2 e3 e4 e5 e6
  refine calls_W Try.func50 rfl rfl hR0 (Q := fun e s => (e = .ret ∨ e = .normal) ∧ s = pvalid_R r) ?_ ?_
  · clear hR0
    unfold pvalid at h
    have hT := tabO_pr
    refine W_seq ?_
    refine W_reg hT ftL_nil [] [] [1] [0] (s' := ⟨[(1, .c (.pt 0 0))], [], [⟨.blk, 34, 1, 6, .c [.s (.k .i64 l0_0), .s (.k .i64 l0_1), .s (.k .i64 l0_2), .s (.k .i64 l0_3), .s (.k .i64 l0_4), .s (.k .i64 l0_5)]⟩]⟩) (by kernel_rfl) allP_nil ?_
    refine W_seq ?_
    refine W_seq ?_
    rcases Bool.eq_false_or_eq_true (decide (l0_0 < (1 : Int))) with g1 | g1
    · replace h := bif_t h g1
      refine W_regD hT ftL_nil (by kernel_rfl) 31 [(3, true)] [(1, false), (26, false), (28, false), (33, false)] [] [1, 35] [0] (s' := ⟨[(1, .c (.pt 0 0)), (35, .c (.s (.b true)))], [], [⟨.blk, 34, 1, 6, .c [.s (.k .i64 l0_0), .s (.k .i64 l0_1), .s (.k .i64 l0_2), .s (.k .i64 l0_3), .s (.k .i64 l0_4), .s (.k .i64 l0_5)]⟩]⟩) (by kernel_rfl) (by kernel_rfl) (allP_cons.2 ⟨g1, allP_nil⟩) ?_
      refine W_cond (b := true) (by kernel_rfl) (fun _ => ?_) (fun hb => by cases hb)
      refine W_seq ?_
      refine W_reg hT ftL_nil [] [] [2] [] (s' := ⟨[(2, .c (.s (.b false)))], [], []⟩) (by kernel_rfl) allP_nil ?_
      refine W_co [] [2] [] (s' := (pvalid_R false)) (by kernel_rfl) (W_ret ?_)
      exact ⟨.inl rfl, by cases h; rfl⟩
    · replace h := bif_f h g1
      rcases Bool.eq_false_or_eq_true (decide ((9999 : Int) < l0_0)) with g2 | g2
      · replace h := bif_t h g2
        refine W_regD hT ftL_nil (by kernel_rfl) 31 [(3, false), (8, true)] [(1, false), (26, false), (28, false), (33, false)] [] [1, 35] [0] (s' := ⟨[(1, .c (.pt 0 0)), (35, .c (.s (.b true)))], [], [⟨.blk, 34, 1, 6, .c [.s (.k .i64 l0_0), .s (.k .i64 l0_1), .s (.k .i64 l0_2), .s (.k .i64 l0_3), .s (.k .i64 l0_4), .s (.k .i64 l0_5)]⟩]⟩) (by kernel_rfl) (by kernel_rfl) (allP_cons.2 ⟨g1, (allP_cons.2 ⟨g2, allP_nil⟩)⟩) ?_
        refine W_cond (b := true) (by kernel_rfl) (fun _ => ?_) (fun hb => by cases hb)
        refine W_seq ?_
        refine W_reg hT ftL_nil [] [] [2] [] (s' := ⟨[(2, .c (.s (.b false)))], [], []⟩) (by kernel_rfl) allP_nil ?_
        refine W_co [] [2] [] (s' := (pvalid_R false)) (by kernel_rfl) (W_ret ?_)
        exact ⟨.inl rfl, by cases h; rfl⟩
      · replace h := bif_f h g2
        rcases Bool.eq_false_or_eq_true (decide (l0_1 < (1 : Int))) with g3 | g3
        · replace h := bif_t h g3
          refine W_regD hT ftL_nil (by kernel_rfl) 31 [(3, false), (8, false), (13, true)] [(1, false), (26, false), (28, false), (33, false)] [] [1, 35] [0] (s' := ⟨[(1, .c (.pt 0 0)), (35, .c (.s (.b true)))], [], [⟨.blk, 34, 1, 6, .c [.s (.k .i64 l0_0), .s (.k .i64 l0_1), .s (.k .i64 l0_2), .s (.k .i64 l0_3), .s (.k .i64 l0_4), .s (.k .i64 l0_5)]⟩]⟩) (by kernel_rfl) (by kernel_rfl) (allP_cons.2 ⟨g1, (allP_cons.2 ⟨g2, (allP_cons.2 ⟨g3, allP_nil⟩)⟩)⟩) ?_
          refine W_cond (b := true) (by kernel_rfl) (fun _ => ?_) (fun hb => by cases hb)
          refine W_seq ?_
          refine W_reg hT ftL_nil [] [] [2] [] (s' := ⟨[(2, .c (.s (.b false)))], [], []⟩) (by kernel_rfl) allP_nil ?_
          refine W_co [] [2] [] (s' := (pvalid_R false)) (by kernel_rfl) (W_ret ?_)
          exact ⟨.inl rfl, by cases h; rfl⟩
        · replace h := bif_f h g3
          rcases Bool.eq_false_or_eq_true (decide ((12 : Int) < l0_1)) with g4 | g4
          · replace h := bif_t h g4
            refine W_regD hT ftL_nil (by kernel_rfl) 31 [(3, false), (8, false), (13, false), (18, true)] [(1, false), (26, false), (28, false), (33, false)] [] [1, 35] [0] (s' := ⟨[(1, .c (.pt 0 0)), (35, .c (.s (.b true)))], [], [⟨.blk, 34, 1, 6, .c [.s (.k .i64 l0_0), .s (.k .i64 l0_1), .s (.k .i64 l0_2), .s (.k .i64 l0_3), .s (.k .i64 l0_4), .s (.k .i64 l0_5)]⟩]⟩) (by kernel_rfl) (by kernel_rfl) (allP_cons.2 ⟨g1, (allP_cons.2 ⟨g2, (allP_cons.2 ⟨g3, (allP_cons.2 ⟨g4, allP_nil⟩)⟩)⟩)⟩) ?_
            refine W_cond (b := true) (by kernel_rfl) (fun _ => ?_) (fun hb => by cases hb)
            refine W_seq ?_
            refine W_reg hT ftL_nil [] [] [2] [] (s' := ⟨[(2, .c (.s (.b false)))], [], []⟩) (by kernel_rfl) allP_nil ?_
            refine W_co [] [2] [] (s' := (pvalid_R false)) (by kernel_rfl) (W_ret ?_)
            exact ⟨.inl rfl, by cases h; rfl⟩
          · replace h := bif_f h g4
            rcases Bool.eq_false_or_eq_true (decide (l0_2 < (1 : Int))) with g5 | g5
            · replace h := bif_t h g5
              refine W_regD hT ftL_nil (by kernel_rfl) 31 [(3, false), (8, false), (13, false), (18, false), (23, true)] [(1, false), (26, false), (28, false), (33, false)] [] [1, 35] [0] (s' := ⟨[(1, .c (.pt 0 0)), (35, .c (.s (.b true)))], [], [⟨.blk, 34, 1, 6, .c [.s (.k .i64 l0_0), .s (.k .i64 l0_1), .s (.k .i64 l0_2), .s (.k .i64 l0_3), .s (.k .i64 l0_4), .s (.k .i64 l0_5)]⟩]⟩) (by kernel_rfl) (by kernel_rfl) (allP_cons.2 ⟨g1, (allP_cons.2 ⟨g2, (allP_cons.2 ⟨g3, (allP_cons.2 ⟨g4, (allP_cons.2 ⟨g5, allP_nil⟩)⟩)⟩)⟩)⟩) ?_
              refine W_cond (b := true) (by kernel_rfl) (fun _ => ?_) (fun hb => by cases hb)
              refine W_seq ?_
              refine W_reg hT ftL_nil [] [] [2] [] (s' := ⟨[(2, .c (.s (.b false)))], [], []⟩) (by kernel_rfl) allP_nil ?_
              refine W_co [] [2] [] (s' := (pvalid_R false)) (by kernel_rfl) (W_ret ?_)
              exact ⟨.inl rfl, by cases h; rfl⟩
            · replace h := bif_f h g5
              obtain ⟨r33, g6, h⟩ := bind_some' h
              refine W_regD hT (ftL_cons (k := 30) (f := 52) (F := (pdays_ct n r33)) (pdays_ok n r33) (fun _ _ => True.intro) ftL_nil) (by kernel_rfl) 31 [(3, false), (8, false), (13, false), (18, false), (23, false)] [(1, false), (26, false), (28, false), (33, false)] [] [1, 35] [0] (s' := ⟨[(1, .c (.pt 0 0)), (35, .c (.s (.b (decide (r33 < l0_2)))))], [], [⟨.blk, 34, 1, 6, .c [.s (.k .i64 l0_0), .s (.k .i64 l0_1), .s (.k .i64 l0_2), .s (.k .i64 l0_3), .s (.k .i64 l0_4), .s (.k .i64 l0_5)]⟩]⟩) (by kernel_rfl) (by kernel_rfl) (allP_cons.2 ⟨g1, (allP_cons.2 ⟨g2, (allP_cons.2 ⟨g3, (allP_cons.2 ⟨g4, (allP_cons.2 ⟨g5, (allP_cons.2 ⟨g6, allP_nil⟩)⟩)⟩)⟩)⟩)⟩) ?_
              refine W_cond (b := (decide (r33 < l0_2))) (by kernel_rfl) (fun g12 => ?_) (fun g12 => ?_)
              · replace h := bif_t h g12
                refine W_seq ?_
                refine W_reg hT ftL_nil [] [] [2] [] (s' := ⟨[(2, .c (.s (.b false)))], [], []⟩) (by kernel_rfl) allP_nil ?_
                refine W_co [] [2] [] (s' := (pvalid_R false)) (by kernel_rfl) (W_ret ?_)
                exact ⟨.inl rfl, by cases h; rfl⟩
              · replace h := bif_f h g12
                refine W_co [] [1] [0] (s' := ⟨[(1, .c (.pt 0 0))], [], [⟨.blk, 34, 1, 6, .c [.s (.k .i64 l0_0), .s (.k .i64 l0_1), .s (.k .i64 l0_2), .s (.k .i64 l0_3), .s (.k .i64 l0_4), .s (.k .i64 l0_5)]⟩]⟩) (by kernel_rfl) (W_skip ?_)
                refine W_seq ?_
                rcases Bool.eq_false_or_eq_true (decide ((0 : Int) ≤ l0_3)) with g7 | g7
                · replace h := bif_t h g7
                  rcases Bool.eq_false_or_eq_true (decide (l0_3 ≤ (23 : Int))) with g8 | g8
                  · replace h := bif_t h g8
                    rcases Bool.eq_false_or_eq_true (decide ((0 : Int) ≤ l0_4)) with g9 | g9
                    · replace h := bif_t h g9
                      rcases Bool.eq_false_or_eq_true (decide (l0_4 ≤ (59 : Int))) with g10 | g10
                      · replace h := bif_t h g10
                        rcases Bool.eq_false_or_eq_true (decide ((0 : Int) ≤ l0_5)) with g11 | g11
                        · replace h := bif_t h g11
                          refine W_reg hT ftL_nil [(3, true), (8, true), (13, true), (18, true), (23, true)] [] [2] [] (s' := ⟨[(2, .c (.s (.b (decide (l0_5 ≤ (59 : Int))))))], [], []⟩) (by kernel_rfl) (allP_cons.2 ⟨g7, (allP_cons.2 ⟨g8, (allP_cons.2 ⟨g9, (allP_cons.2 ⟨g10, (allP_cons.2 ⟨g11, allP_nil⟩)⟩)⟩)⟩)⟩) ?_
                          refine W_co [] [2] [] (s' := (pvalid_R (decide (l0_5 ≤ (59 : Int))))) (by kernel_rfl) (W_ret ?_)
                          exact ⟨.inl rfl, by cases h; rfl⟩
                        · replace h := bif_f h g11
                          refine W_reg hT ftL_nil [(3, true), (8, true), (13, true), (18, true), (23, false)] [] [2] [] (s' := ⟨[(2, .c (.s (.b false)))], [], []⟩) (by kernel_rfl) (allP_cons.2 ⟨g7, (allP_cons.2 ⟨g8, (allP_cons.2 ⟨g9, (allP_cons.2 ⟨g10, (allP_cons.2 ⟨g11, allP_nil⟩)⟩)⟩)⟩)⟩) ?_
                          refine W_co [] [2] [] (s' := (pvalid_R false)) (by kernel_rfl) (W_ret ?_)
                          exact ⟨.inl rfl, by cases h; rfl⟩
                      · replace h := bif_f h g10
                        refine W_reg hT ftL_nil [(3, true), (8, true), (13, true), (18, false)] [] [2] [] (s' := ⟨[(2, .c (.s (.b false)))], [], []⟩) (by kernel_rfl) (allP_cons.2 ⟨g7, (allP_cons.2 ⟨g8, (allP_cons.2 ⟨g9, (allP_cons.2 ⟨g10, allP_nil⟩)⟩)⟩)⟩) ?_
                        refine W_co [] [2] [] (s' := (pvalid_R false)) (by kernel_rfl) (W_ret ?_)
                        exact ⟨.inl rfl, by cases h; rfl⟩
                    · replace h := bif_f h g9
                      refine W_reg hT ftL_nil [(3, true), (8, true), (13, false)] [] [2] [] (s' := ⟨[(2, .c (.s (.b false)))], [], []⟩) (by kernel_rfl) (allP_cons.2 ⟨g7, (allP_cons.2 ⟨g8, (allP_cons.2 ⟨g9, allP_nil⟩)⟩)⟩) ?_
                      refine W_co [] [2] [] (s' := (pvalid_R false)) (by kernel_rfl) (W_ret ?_)
                      exact ⟨.inl rfl, by cases h; rfl⟩
                  · replace h := bif_f h g8
                    refine W_reg hT ftL_nil [(3, true), (8, false)] [] [2] [] (s' := ⟨[(2, .c (.s (.b false)))], [], []⟩) (by kernel_rfl) (allP_cons.2 ⟨g7, (allP_cons.2 ⟨g8, allP_nil⟩)⟩) ?_
                    refine W_co [] [2] [] (s' := (pvalid_R false)) (by kernel_rfl) (W_ret ?_)
                    exact ⟨.inl rfl, by cases h; rfl⟩
                · replace h := bif_f h g7
                  refine W_reg hT ftL_nil [(3, false)] [] [2] [] (s' := ⟨[(2, .c (.s (.b false)))], [], []⟩) (by kernel_rfl) (allP_cons.2 ⟨g7, allP_nil⟩) ?_
                  refine W_co [] [2] [] (s' := (pvalid_R false)) (by kernel_rfl) (W_ret ?_)
                  exact ⟨.inl rfl, by cases h; rfl⟩
  · rintro e s' ⟨he, rfl⟩
    refine ⟨he, fun a' w' hr => ?_⟩
    exact retS_ok tabO_pr hr (rs := [.tmp 2]) rfl (objs := []) (by kernel_rfl)
def pTime_l1_E (b5_1 : UInt8) (z6_1 : List Int) (m6_1 : Nat) (l7_1 : List UInt8) (i43_1 : Int) : S := ⟨[(5, .c (.s (.u8 b5_1))), (7, .c (.wh 0)), (41, .c (.wh 1)), (42, .c (.s (.k .i64 ((m6_1 : Nat) : Int)))), (43, .c (.s (.k .i64 i43_1)))], [], [⟨.row, 5, 1, l7_1.length, .b l7_1⟩, ⟨(.ro true), 3, 1, m6_1, .z z6_1⟩]⟩
def pTime_l1_P (n : Nat) (b5_1 : UInt8) (z6_1 : List Int) (m6_1 : Nat) (r : UInt8 × List UInt8 × Option Int) (fu : Nat) : S → Prop := fun s => ∃ (l7_1 : List UInt8), ∃ (i43_1 : Int), s = pTime_l1_E b5_1 z6_1 m6_1 l7_1 i43_1 ∧ pTime_l1 n b5_1 z6_1 m6_1 fu l7_1 i43_1 = some r
theorem pTime_l1_M {n : Nat} {b5_1 : UInt8} {z6_1 : List Int} {m6_1 : Nat} {l7_1 : List UInt8} {i43_1 : Int} {r : UInt8 × List UInt8 × Option Int} {fu : Nat} (h : pTime_l1 n b5_1 z6_1 m6_1 fu l7_1 i43_1 = some r) : pTime_l1_P n b5_1 z6_1 m6_1 r fu (pTime_l1_E b5_1 z6_1 m6_1 l7_1 i43_1) := ⟨l7_1, i43_1, rfl, h⟩
def pTime_j1_E (b5_1 : UInt8) (z6_1 : List Int) (m6_1 : Nat) : S := ⟨[(5, .c (.s (.u8 b5_1))), (6, .c (.wh 0))], [], [⟨(.ro true), 3, 1, m6_1, .z z6_1⟩]⟩
def pTime_j1_P (n : Nat) (r : UInt8 × List UInt8 × Option Int) : S → Prop := fun s => ∃ (b5_1 : UInt8), ∃ (z6_1 : List Int), ∃ (m6_1 : Nat), s = pTime_j1_E b5_1 z6_1 m6_1 ∧ pTime_j1 n b5_1 z6_1 m6_1 = some r
theorem pTime_j1_M {n : Nat} {b5_1 : UInt8} {z6_1 : List Int} {m6_1 : Nat} {r : UInt8 × List UInt8 × Option Int} (h : pTime_j1 n b5_1 z6_1 m6_1 = some r) : pTime_j1_P n r (pTime_j1_E b5_1 z6_1 m6_1) := ⟨b5_1, z6_1, m6_1, rfl, h⟩
def pTime_R (r : UInt8 × List UInt8 × Option Int) : S := ⟨[(2, .c (.s (.u8 r.1))), (3, .c (.wh 0)), (4, .c (.s (.er 31 .i64 r.2.2)))], [], [⟨.row, 5, 1, r.2.1.length, .b r.2.1⟩]⟩
def pTime_ct (n : Nat) (r : UInt8 × List UInt8 × Option Int) : Ct := fun args H => match args with
  | [x0] => (match aGc 6 x0 with | some y0 => (match aI (.c (y0.getD 0 .junk)) with | some l0_0 => (match aI (.c (y0.getD 1 .junk)) with | some l0_1 => (match aI (.c (y0.getD 2 .junk)) with | some l0_2 => (match aI (.c (y0.getD 3 .junk)) with | some l0_3 => (match aI (.c (y0.getD 4 .junk)) with | some l0_4 => (match aI (.c (y0.getD 5 .junk)) with | some l0_5 => some ([pTime n l0_0 l0_1 l0_2 l0_3 l0_4 l0_5 = some r], shA H.length (.t [.c (.s (.u8 r.1)), .c (.wh 0), .c (.s (.er 31 .i64 r.2.2))]), shH H.length [⟨.row, 5, 1, r.2.1.length, .b r.2.1⟩]) | none => none) | none => none) | none => none) | none => none) | none => none) | none => none) | none => none)
  | _ => none
theorem pTime_ok (n : Nat) (r : UInt8 × List UInt8 × Option Int) : FnOk Try.prog Tr 20 (pTime_ct n r) := by
  refine ⟨fun args H g av objs hF hg ρ w vals hG hp ha => ?_, _, Try.func20, by kernel_rfl, by kernel_rfl⟩
  obtain ⟨x0, rfl⟩ : ∃ x0, args = [x0] := by
    unfold pTime_ct at hF; split at hF
    · exact ⟨_, rfl⟩
    · cases hF
  cases e0 : aGc 6 x0 with
  | none => simp only [pTime_ct, e0, reduceCtorEq] at hF
  | some y0 =>
  cases e1 : aI (.c (y0.getD 0 .junk)) with
  | none => simp only [pTime_ct, e0, e1, reduceCtorEq] at hF
  | some l0_0 =>
  cases e2 : aI (.c (y0.getD 1 .junk)) with
  | none => simp only [pTime_ct, e0, e1, e2, reduceCtorEq] at hF
  | some l0_1 =>
  cases e3 : aI (.c (y0.getD 2 .junk)) with
  | none => simp only [pTime_ct, e0, e1, e2, e3, reduceCtorEq] at hF
  | some l0_2 =>
  cases e4 : aI (.c (y0.getD 3 .junk)) with
  | none => simp only [pTime_ct, e0, e1, e2, e3, e4, reduceCtorEq] at hF
  | some l0_3 =>
  cases e5 : aI (.c (y0.getD 4 .junk)) with
  | none => simp only [pTime_ct, e0, e1, e2, e3, e4, e5, reduceCtorEq] at hF
  | some l0_4 =>
  cases e6 : aI (.c (y0.getD 5 .junk)) with
  | none => simp only [pTime_ct, e0, e1, e2, e3, e4, e5, e6, reduceCtorEq] at hF
  | some l0_5 =>
  simp only [pTime_ct, e0, e1, e2, e3, e4, e5, e6, Option.some.injEq, Prod.mk.injEq] at hF
  obtain ⟨rfl, rfl, rfl⟩ := hF
  obtain ⟨v0, vals, rfl, k0, ha⟩ := F2.inv ha
  obtain rfl := F2.inv0 ha
  have hI : ∀ w', Kp (noB (fun _ => undef)) w w' → Tr w' := fun _ hk => Tr.keep hk.below hG
  have h : pTime n l0_0 l0_1 l0_2 l0_3 l0_4 l0_5 = some r := hg
  obtain ⟨vs0, hn0, rfl, hy0⟩ := aGc_ok e0 k0
  have s0_0 := aI_ok e1 (hy0 0 (by decide))
  have s0_1 := aI_ok e2 (hy0 1 (by decide))
  have s0_2 := aI_ok e3 (hy0 2 (by decide))
  have s0_3 := aI_ok e4 (hy0 3 (by decide))
  have s0_4 := aI_ok e5 (hy0 4 (by decide))
  have s0_5 := aI_ok e6 (hy0 5 (by decide))
  have hR0 := rel0 (gv := (fun _ => undef)) (n := 63) (w := w) (args := [.g 6 (.c [.s (.k .i64 l0_0), .s (.k .i64 l0_1), .s (.k .i64 l0_2), .s (.k .i64 l0_3), .s (.k .i64 l0_4), .s (.k .i64 l0_5)])]) (H := []) (gl := []) (hpL (ps := []) F2.nil) (allRo_ok rfl) (F2.cons ⟨vs0, (by rw [lstE undef hn0]; exact (F2.cons s0_0 (F2.cons s0_1 (F2.cons s0_2 (F2.cons s0_3 (F2.cons s0_4 (F2.cons s0_5 F2.nil))))))), hn0, rfl⟩ F2.nil) GlR.nil (by simp)
  clear ha hp hg k0 e0 e1 e2 e3 e4 e5 e6
  refine calls_W Try.func20 rfl rfl hR0 (Q := fun e s => (e = .ret ∨ e = .normal) ∧ s = pTime_R r) ?_ ?_
  · clear hR0
    unfold pTime at h
    have hT := tabO_pr
    refine W_seq ?_
    refine W_reg hT ftL_nil [] [] [1] [0] (s' := ⟨[(1, .c (.pt 0 0))], [], [⟨.blk, 34, 1, 6, .c [.s (.k .i64 l0_0), .s (.k .i64 l0_1), .s (.k .i64 l0_2), .s (.k .i64 l0_3), .s (.k .i64 l0_4), .s (.k .i64 l0_5)]⟩]⟩) (by kernel_rfl) allP_nil ?_
    refine W_seq ?_
    refine W_seq ?_
    obtain ⟨r11, g1, h⟩ := bind_some' h
    refine W_reg hT (ftL_cons (k := 1) (f := 50) (F := (pvalid_ct n r11)) (pvalid_ok n r11) (fun _ _ => True.intro) ftL_nil) [] [] [1, 12] [0] (s' := ⟨[(1, .c (.pt 0 0)), (12, .c (.s (.b (!r11))))], [], [⟨.blk, 34, 1, 6, .c [.s (.k .i64 l0_0), .s (.k .i64 l0_1), .s (.k .i64 l0_2), .s (.k .i64 l0_3), .s (.k .i64 l0_4), .s (.k .i64 l0_5)]⟩]⟩) (by kernel_rfl) (allP_cons.2 ⟨g1, allP_nil⟩) ?_
    refine W_cond (b := (!r11)) (by kernel_rfl) (fun g20 => ?_) (fun g20 => ?_)
    · replace h := bif_t h g20
      refine W_seq ?_
      refine W_reg hT ftL_nil [] [] [2, 3, 4] [] (s' := ⟨[(2, .c (.s (.u8 0))), (3, .c (.nils)), (4, .c (.s (.er 31 .i64 (some 1))))], [], []⟩) (by kernel_rfl) allP_nil ?_
      refine W_co [.nil 3 5 1 (.b [])] [2, 3, 4] [0] (s' := (pTime_R (0, [], (some 1)))) (by kernel_rfl) (W_ret ?_)
      exact ⟨.inl rfl, by cases h; rfl⟩
    · replace h := bif_f h g20
      refine W_co [] [1] [0] (s' := ⟨[(1, .c (.pt 0 0))], [], [⟨.blk, 34, 1, 6, .c [.s (.k .i64 l0_0), .s (.k .i64 l0_1), .s (.k .i64 l0_2), .s (.k .i64 l0_3), .s (.k .i64 l0_4), .s (.k .i64 l0_5)]⟩]⟩) (by kernel_rfl) (W_skip ?_)
      refine W_seq ?_
      obtain ⟨g2, h⟩ := gd_some h
      obtain ⟨g3, h⟩ := gd_some h
      obtain ⟨g4, h⟩ := gd_some h
      refine W_regD hT ftL_nil (by kernel_rfl) 18 [] [(1, false), (5, false), (30, false)] [] [1, 5, 6] [0, 1] (s' := ⟨[(1, .c (.pt 0 0)), (5, .c (.s (.u8 24))), (6, .c (.wh 1))], [], [⟨.blk, 34, 1, 6, .c [.s (.k .i64 l0_0), .s (.k .i64 l0_1), .s (.k .i64 l0_2), .s (.k .i64 l0_3), .s (.k .i64 l0_4), .s (.k .i64 l0_5)]⟩, ⟨.row, 3, 1, 7, .z [(Int.tdiv l0_0 100), (Int.tmod l0_0 100), l0_1, l0_2, l0_3, l0_4, l0_5]⟩]⟩) (by kernel_rfl) (by kernel_rfl) (allP_cons.2 ⟨g2, (allP_cons.2 ⟨g3, (allP_cons.2 ⟨g4, allP_nil⟩)⟩)⟩) ?_
      refine W_join (pTime_j1_P n r) ?_ ?_
      · rintro _ ⟨b5_1, z6_1, m6_1, rfl, h⟩
        unfold pTime_j1 at h
        refine W_seq ?_
        refine W_reg hT ftL_nil [] [] [5, 6, 7] [0] (s' := ⟨[(5, .c (.s (.u8 b5_1))), (6, .c (.wh 0)), (7, .c (.nils))], [], [⟨(.ro true), 3, 1, m6_1, .z z6_1⟩]⟩) (by kernel_rfl) allP_nil ?_
        refine W_seq ?_
        refine W_seq ?_
        refine W_reg hT ftL_nil [] [] [5, 7, 41, 42, 43] [0] (s' := ⟨[(5, .c (.s (.u8 b5_1))), (7, .c (.nils)), (41, .c (.wh 0)), (42, .c (.s (.k .i64 ((m6_1 : Nat) : Int)))), (43, .c (.s (.k .i64 0)))], [], [⟨(.ro true), 3, 1, m6_1, .z z6_1⟩]⟩) (by kernel_rfl) allP_nil ?_
        refine W_block ?_
        refine W_co [.nil 7 5 1 (.b [])] [5, 7, 41, 42, 43] [1, 0] (s' := (pTime_l1_E b5_1 z6_1 m6_1 [] 0)) (by kernel_rfl) (W_lp ((pTime_l1_P n b5_1 z6_1 m6_1 r)) n (pTime_l1_M h) ?_)
        rintro fu_l1 _ ⟨l7_1, i43_1, rfl, h⟩
        cases fu_l1 with
        | zero => cases h
        | succ fu_l1 =>
          refine ⟨fu_l1, rfl, ?_⟩
          rw [pTime_l1] at h
          refine W_seq ?_
          refine W_reg hT ftL_nil [] [] [5, 7, 41, 42, 43, 44] [0, 1] (s' := ⟨[(5, .c (.s (.u8 b5_1))), (7, .c (.wh 0)), (41, .c (.wh 1)), (42, .c (.s (.k .i64 ((m6_1 : Nat) : Int)))), (43, .c (.s (.k .i64 i43_1))), (44, .c (.s (.b (decide (i43_1 < ((m6_1 : Nat) : Int))))))], [], [⟨.row, 5, 1, l7_1.length, .b l7_1⟩, ⟨(.ro true), 3, 1, m6_1, .z z6_1⟩]⟩) (by kernel_rfl) allP_nil ?_
          refine W_seq ?_
          refine W_cond (b := (decide (i43_1 < ((m6_1 : Nat) : Int)))) (by kernel_rfl) (fun g15 => ?_) (fun g15 => ?_)
          · replace h := bif_t h g15
            refine W_co [] [5, 7, 41, 42, 43] [0, 1] (s' := ⟨[(5, .c (.s (.u8 b5_1))), (7, .c (.wh 0)), (41, .c (.wh 1)), (42, .c (.s (.k .i64 ((m6_1 : Nat) : Int)))), (43, .c (.s (.k .i64 i43_1)))], [], [⟨.row, 5, 1, l7_1.length, .b l7_1⟩, ⟨(.ro true), 3, 1, m6_1, .z z6_1⟩]⟩) (by kernel_rfl) (W_skip ?_)
            refine W_seq ?_
            refine W_block ?_
            refine W_seq ?_
            obtain ⟨g5, h⟩ := gd_some h
            obtain ⟨g6, h⟩ := gd_some h
            refine W_reg hT ftL_nil [] [] [5, 7, 9, 41, 42, 43] [0, 1] (s' := ⟨[(5, .c (.s (.u8 b5_1))), (7, .c (.wh 0)), (9, .c (.s (.k .i64 (z6_1.getD i43_1.toNat 0)))), (41, .c (.wh 1)), (42, .c (.s (.k .i64 ((m6_1 : Nat) : Int)))), (43, .c (.s (.k .i64 i43_1)))], [], [⟨.row, 5, 1, l7_1.length, .b l7_1⟩, ⟨(.ro true), 3, 1, m6_1, .z z6_1⟩]⟩) (by kernel_rfl) (allP_cons.2 ⟨g5, (allP_cons.2 ⟨g6, allP_nil⟩)⟩) ?_
            obtain ⟨g7, h⟩ := gd_some h
            obtain ⟨g8, h⟩ := gd_some h
            obtain ⟨g9, h⟩ := gd_some h
            obtain ⟨g10, h⟩ := gd_some h
            obtain ⟨g11, h⟩ := gd_some h
            obtain ⟨g12, h⟩ := gd_some h
            refine W_reg hT ftL_nil [] [] [5, 7, 41, 42, 43] [3, 1] (s' := ⟨[(5, .c (.s (.u8 b5_1))), (7, .c (.wh 0)), (41, .c (.wh 1)), (42, .c (.s (.k .i64 ((m6_1 : Nat) : Int)))), (43, .c (.s (.k .i64 i43_1)))], [], [⟨.row, 5, 1, (l7_1 ++ [(UInt8.ofInt (48 + (Int.tdiv (z6_1.getD i43_1.toNat 0) 10))), (UInt8.ofInt (48 + (Int.tmod (z6_1.getD i43_1.toNat 0) 10)))]).length, .b (l7_1 ++ [(UInt8.ofInt (48 + (Int.tdiv (z6_1.getD i43_1.toNat 0) 10))), (UInt8.ofInt (48 + (Int.tmod (z6_1.getD i43_1.toNat 0) 10)))])⟩, ⟨(.ro true), 3, 1, m6_1, .z z6_1⟩]⟩) (by kernel_rfl) (allP_cons.2 ⟨g7, (allP_cons.2 ⟨g8, (allP_cons.2 ⟨g9, (allP_cons.2 ⟨g10, (allP_cons.2 ⟨g11, (allP_cons.2 ⟨g12, allP_nil⟩)⟩)⟩)⟩)⟩)⟩) ?_
            obtain ⟨g13, h⟩ := gd_some h
            refine W_reg hT ftL_nil [] [] [5, 7, 41, 42, 43] [0, 1] (s' := (pTime_l1_E b5_1 z6_1 m6_1 (l7_1 ++ [(UInt8.ofInt (48 + (Int.tdiv (z6_1.getD i43_1.toNat 0) 10))), (UInt8.ofInt (48 + (Int.tmod (z6_1.getD i43_1.toNat 0) 10)))]) (i43_1 + 1))) (by kernel_rfl) (allP_cons.2 ⟨g13, allP_nil⟩) ?_
            exact pTime_l1_M h
          · replace h := bif_f h g15
            refine W_co [] [5, 7] [0] (s' := ⟨[(5, .c (.s (.u8 b5_1))), (7, .c (.wh 0))], [], [⟨.row, 5, 1, l7_1.length, .b l7_1⟩]⟩) (by kernel_rfl) (W_exit ?_)
            refine W_seq ?_
            obtain ⟨g14, h⟩ := gd_some h
            refine W_reg hT ftL_nil [] [] [2, 3, 4] [2] (s' := ⟨[(2, .c (.s (.u8 b5_1))), (3, .c (.wh 0)), (4, .c (.s (.v .nilIface)))], [], [⟨.row, 5, 1, (l7_1 ++ [90]).length, .b (l7_1 ++ [90])⟩]⟩) (by kernel_rfl) (allP_cons.2 ⟨g14, allP_nil⟩) ?_
            refine W_co [.er 4 31 .i64] [2, 3, 4] [0] (s' := (pTime_R (b5_1, (l7_1 ++ [90]), none))) (by kernel_rfl) (W_ret ?_)
            exact ⟨.inl rfl, by cases h; rfl⟩
      · refine W_seq ?_
        rcases Bool.eq_false_or_eq_true (decide ((1950 : Int) ≤ l0_0)) with g16 | g16
        · replace h := bif_t h g16
          refine W_reg hT ftL_nil [(3, true)] [] [5, 6, 38] [1] (s' := ⟨[(5, .c (.s (.u8 24))), (6, .c (.wh 0)), (38, .c (.s (.b (decide (l0_0 < (2050 : Int))))))], [], [⟨.row, 3, 1, 7, .z [(Int.tdiv l0_0 100), (Int.tmod l0_0 100), l0_1, l0_2, l0_3, l0_4, l0_5]⟩]⟩) (by kernel_rfl) (allP_cons.2 ⟨g16, allP_nil⟩) ?_
          refine W_cond (b := (decide (l0_0 < (2050 : Int)))) (by kernel_rfl) (fun g19 => ?_) (fun g19 => ?_)
          · replace h := bif_t h g19
            obtain ⟨g17, h⟩ := gd_some h
            obtain ⟨g18, h⟩ := gd_some h
            refine W_regD hT ftL_nil (by kernel_rfl) 3 [] [(5, false), (6, false), (40, false)] [.vw 6 true] [5, 6] [1] (s' := (pTime_j1_E 23 (([(Int.tdiv l0_0 100), (Int.tmod l0_0 100), l0_1, l0_2, l0_3, l0_4, l0_5].drop 1).take 6) 6)) (by kernel_rfl) (by kernel_rfl) (allP_cons.2 ⟨g17, (allP_cons.2 ⟨g18, allP_nil⟩)⟩) ?_
            exact pTime_j1_M h
          · replace h := bif_f h g19
            refine W_co [.vw 6 true] [5, 6] [1] (s' := (pTime_j1_E 24 [(Int.tdiv l0_0 100), (Int.tmod l0_0 100), l0_1, l0_2, l0_3, l0_4, l0_5] 7)) (by kernel_rfl) (W_skip ?_)
            exact pTime_j1_M h
        · replace h := bif_f h g16
          refine W_reg hT ftL_nil [(3, false)] [] [5, 6, 38] [1] (s' := ⟨[(5, .c (.s (.u8 24))), (6, .c (.wh 0)), (38, .c (.s (.b false)))], [], [⟨.row, 3, 1, 7, .z [(Int.tdiv l0_0 100), (Int.tmod l0_0 100), l0_1, l0_2, l0_3, l0_4, l0_5]⟩]⟩) (by kernel_rfl) (allP_cons.2 ⟨g16, allP_nil⟩) ?_
          refine W_cond (b := false) (by kernel_rfl) (fun hb => by cases hb) (fun _ => ?_)
          refine W_co [.vw 6 true] [5, 6] [1] (s' := (pTime_j1_E 24 [(Int.tdiv l0_0 100), (Int.tmod l0_0 100), l0_1, l0_2, l0_3, l0_4, l0_5] 7)) (by kernel_rfl) (W_skip ?_)
          exact pTime_j1_M h
  · rintro e s' ⟨he, rfl⟩
    refine ⟨he, fun a' w' hr => ?_⟩
    exact retS_ok tabO_pr hr (rs := [.tmp 2, .tmp 3, .tmp 4]) rfl (objs := [0]) (by kernel_rfl)
def pahead_R (r : Int) : S := ⟨[(2, .c (.s (.k .i64 r)))], [], []⟩
def pahead_ct (n : Nat) (r : Int) : Ct := fun args H => match args with
  | [x0] => (match aI x0 with | some l0 => some ([pahead n l0 = some r], shA H.length (.c (.s (.k .i64 r))), shH H.length []) | none => none)
  | _ => none
theorem pahead_ok (n : Nat) (r : Int) : FnOk Try.prog Tr 51 (pahead_ct n r) := by
  refine ⟨fun args H g av objs hF hg ρ w vals hG hp ha => ?_, _, Try.func51, by kernel_rfl, by kernel_rfl⟩
  obtain ⟨x0, rfl⟩ : ∃ x0, args = [x0] := by
    unfold pahead_ct at hF; split at hF
    · exact ⟨_, rfl⟩
    · cases hF
  cases e0 : aI x0 with
  | none => simp only [pahead_ct, e0, reduceCtorEq] at hF
  | some l0 =>
  simp only [pahead_ct, e0, Option.some.injEq, Prod.mk.injEq] at hF
  obtain ⟨rfl, rfl, rfl⟩ := hF
  obtain ⟨v0, vals, rfl, k0, ha⟩ := F2.inv ha
  obtain rfl := F2.inv0 ha
  have hI : ∀ w', Kp (noB (fun _ => undef)) w w' → Tr w' := fun _ hk => Tr.keep hk.below hG
  have h : pahead n l0 = some r := hg
  have s0 := aI_ok e0 (k0)
  have hR0 := rel0 (gv := (fun _ => undef)) (n := 17) (w := w) (args := [.c (.s (.k .i64 l0))]) (H := []) (gl := []) (hpL (ps := []) F2.nil) (allRo_ok rfl) (F2.cons s0 F2.nil) GlR.nil (by simp)
  clear ha hp hg k0 e0
  refine calls_W Try.func51 rfl rfl hR0 (Q := fun e s => (e = .ret ∨ e = .normal) ∧ s = pahead_R r) ?_ ?_
  · clear hR0
    unfold pahead at h
    have hT := tabO_pr
    refine W_seq ?_
    refine W_reg hT ftL_nil [] [] [0] [] (s' := ⟨[(0, .c (.s (.k .i64 l0)))], [], []⟩) (by kernel_rfl) allP_nil ?_
    refine W_seq ?_
    obtain ⟨g1, h⟩ := gd_some h
    refine W_reg hT ftL_nil [] [] [3] [] (s' := ⟨[(3, .c (.s (.k .i64 (l0 - 1))))], [], []⟩) (by kernel_rfl) (allP_cons.2 ⟨g1, allP_nil⟩) ?_
    refine W_seq ?_
    obtain ⟨g2, h⟩ := gd_some h
    obtain ⟨g3, h⟩ := gd_some h
    obtain ⟨g4, h⟩ := gd_some h
    obtain ⟨g5, h⟩ := gd_some h
    obtain ⟨g6, h⟩ := gd_some h
    obtain ⟨g7, h⟩ := gd_some h
    obtain ⟨g8, h⟩ := gd_some h
    obtain ⟨g9, h⟩ := gd_some h
    obtain ⟨g10, h⟩ := gd_some h
    obtain ⟨g11, h⟩ := gd_some h
    refine W_reg hT ftL_nil [] [] [2] [] (s' := ⟨[(2, .c (.s (.k .i64 ((((365 * (l0 - 1)) + (Int.tdiv (l0 - 1) 4)) - (Int.tdiv (l0 - 1) 100)) + (Int.tdiv (l0 - 1) 400)))))], [], []⟩) (by kernel_rfl) (allP_cons.2 ⟨g2, (allP_cons.2 ⟨g3, (allP_cons.2 ⟨g4, (allP_cons.2 ⟨g5, (allP_cons.2 ⟨g6, (allP_cons.2 ⟨g7, (allP_cons.2 ⟨g8, (allP_cons.2 ⟨g9, (allP_cons.2 ⟨g10, (allP_cons.2 ⟨g11, allP_nil⟩)⟩)⟩)⟩)⟩)⟩)⟩)⟩)⟩)⟩) ?_
    refine W_co [] [2] [] (s' := (pahead_R ((((365 * (l0 - 1)) + (Int.tdiv (l0 - 1) 4)) - (Int.tdiv (l0 - 1) 100)) + (Int.tdiv (l0 - 1) 400)))) (by kernel_rfl) (W_ret ?_)
    exact ⟨.inl rfl, by cases h; rfl⟩
  · rintro e s' ⟨he, rfl⟩
    refine ⟨he, fun a' w' hr => ?_⟩
    exact retS_ok tabO_pr hr (rs := [.tmp 2]) rfl (objs := []) (by kernel_rfl)
def pCount_l1_E (a0_0 : Int) (a0_1 : Int) (a0_2 : Int) (a0_3 : Int) (a0_4 : Int) (a0_5 : Int) (i4_1 : Int) (i5_1 : Int) : S := ⟨[(1, .c (.pt 0 0)), (4, .c (.s (.k .i64 i4_1))), (5, .c (.s (.k .i64 i5_1)))], [], [⟨.blk, 34, 1, 6, .c [.s (.k .i64 a0_0), .s (.k .i64 a0_1), .s (.k .i64 a0_2), .s (.k .i64 a0_3), .s (.k .i64 a0_4), .s (.k .i64 a0_5)]⟩]⟩
def pCount_l1_P (n : Nat) (a0_0 : Int) (a0_1 : Int) (a0_2 : Int) (a0_3 : Int) (a0_4 : Int) (a0_5 : Int) (r : Int × Option Int) (fu : Nat) : S → Prop := fun s => ∃ (i4_1 : Int), ∃ (i5_1 : Int), s = pCount_l1_E a0_0 a0_1 a0_2 a0_3 a0_4 a0_5 i4_1 i5_1 ∧ pCount_l1 n a0_0 a0_1 a0_2 a0_3 a0_4 a0_5 fu i4_1 i5_1 = some r
theorem pCount_l1_M {n : Nat} {a0_0 : Int} {a0_1 : Int} {a0_2 : Int} {a0_3 : Int} {a0_4 : Int} {a0_5 : Int} {i4_1 : Int} {i5_1 : Int} {r : Int × Option Int} {fu : Nat} (h : pCount_l1 n a0_0 a0_1 a0_2 a0_3 a0_4 a0_5 fu i4_1 i5_1 = some r) : pCount_l1_P n a0_0 a0_1 a0_2 a0_3 a0_4 a0_5 r fu (pCount_l1_E a0_0 a0_1 a0_2 a0_3 a0_4 a0_5 i4_1 i5_1) := ⟨i4_1, i5_1, rfl, h⟩
def pCount_R (r : Int × Option Int) : S := ⟨[(2, .c (.s (.k .i64 r.1))), (3, .c (.s (.er 31 .i64 r.2)))], [], []⟩
def pCount_ct (n : Nat) (r : Int × Option Int) : Ct := fun args H => match args with
  | [x0] => (match aGc 6 x0 with | some y0 => (match aI (.c (y0.getD 0 .junk)) with | some l0_0 => (match aI (.c (y0.getD 1 .junk)) with | some l0_1 => (match aI (.c (y0.getD 2 .junk)) with | some l0_2 => (match aI (.c (y0.getD 3 .junk)) with | some l0_3 => (match aI (.c (y0.getD 4 .junk)) with | some l0_4 => (match aI (.c (y0.getD 5 .junk)) with | some l0_5 => some ([pCount n l0_0 l0_1 l0_2 l0_3 l0_4 l0_5 = some r], shA H.length (.t [.c (.s (.k .i64 r.1)), .c (.s (.er 31 .i64 r.2))]), shH H.length []) | none => none) | none => none) | none => none) | none => none) | none => none) | none => none) | none => none)
  | _ => none
theorem pCount_ok (n : Nat) (r : Int × Option Int) : FnOk Try.prog Tr 19 (pCount_ct n r) := by
  refine ⟨fun args H g av objs hF hg ρ w vals hG hp ha => ?_, _, Try.func19, by kernel_rfl, by kernel_rfl⟩
  obtain ⟨x0, rfl⟩ : ∃ x0, args = [x0] := by
    unfold pCount_ct at hF; split at hF
    · exact ⟨_, rfl⟩
    · cases hF
  cases e0 : aGc 6 x0 with
  | none => simp only [pCount_ct, e0, reduceCtorEq] at hF
  | some y0 =>
  cases e1 : aI (.c (y0.getD 0 .junk)) with
  | none => simp only [pCount_ct, e0, e1, reduceCtorEq] at hF
  | some l0_0 =>
  cases e2 : aI (.c (y0.getD 1 .junk)) with
  | none => simp only [pCount_ct, e0, e1, e2, reduceCtorEq] at hF
  | some l0_1 =>
  cases e3 : aI (.c (y0.getD 2 .junk)) with
  | none => simp only [pCount_ct, e0, e1, e2, e3, reduceCtorEq] at hF
  | some l0_2 =>
  cases e4 : aI (.c (y0.getD 3 .junk)) with
  | none => simp only [pCount_ct, e0, e1, e2, e3, e4, reduceCtorEq] at hF
  | some l0_3 =>
  cases e5 : aI (.c (y0.getD 4 .junk)) with
  | none => simp only [pCount_ct, e0, e1, e2, e3, e4, e5, reduceCtorEq] at hF
  | some l0_4 =>
  cases e6 : aI (.c (y0.getD 5 .junk)) with
  | none => simp only [pCount_ct, e0, e1, e2, e3, e4, e5, e6, reduceCtorEq] at hF
  | some l0_5 =>
  simp only [pCount_ct, e0, e1, e2, e3, e4, e5, e6, Option.some.injEq, Prod.mk.injEq] at hF
  obtain ⟨rfl, rfl, rfl⟩ := hF
  obtain ⟨v0, vals, rfl, k0, ha⟩ := F2.inv ha
  obtain rfl := F2.inv0 ha
  have hI : ∀ w', Kp (noB (fun _ => undef)) w w' → Tr w' := fun _ hk => Tr.keep hk.below hG
  have h : pCount n l0_0 l0_1 l0_2 l0_3 l0_4 l0_5 = some r := hg
  obtain ⟨vs0, hn0, rfl, hy0⟩ := aGc_ok e0 k0
  have s0_0 := aI_ok e1 (hy0 0 (by decide))
  have s0_1 := aI_ok e2 (hy0 1 (by decide))
  have s0_2 := aI_ok e3 (hy0 2 (by decide))
  have s0_3 := aI_ok e4 (hy0 3 (by decide))
  have s0_4 := aI_ok e5 (hy0 4 (by decide))
  have s0_5 := aI_ok e6 (hy0 5 (by decide))
  have hR0 := rel0 (gv := (fun _ => undef)) (n := 42) (w := w) (args := [.g 6 (.c [.s (.k .i64 l0_0), .s (.k .i64 l0_1), .s (.k .i64 l0_2), .s (.k .i64 l0_3), .s (.k .i64 l0_4), .s (.k .i64 l0_5)])]) (H := []) (gl := []) (hpL (ps := []) F2.nil) (allRo_ok rfl) (F2.cons ⟨vs0, (by rw [lstE undef hn0]; exact (F2.cons s0_0 (F2.cons s0_1 (F2.cons s0_2 (F2.cons s0_3 (F2.cons s0_4 (F2.cons s0_5 F2.nil))))))), hn0, rfl⟩ F2.nil) GlR.nil (by simp)
  clear ha hp hg k0 e0 e1 e2 e3 e4 e5 e6
  refine calls_W Try.func19 rfl rfl hR0 (Q := fun e s => (e = .ret ∨ e = .normal) ∧ s = pCount_R r) ?_ ?_
  · clear hR0
    unfold pCount at h
    have hT := tabO_pr
    refine W_seq ?_
    refine W_reg hT ftL_nil [] [] [1] [0] (s' := ⟨[(1, .c (.pt 0 0))], [], [⟨.blk, 34, 1, 6, .c [.s (.k .i64 l0_0), .s (.k .i64 l0_1), .s (.k .i64 l0_2), .s (.k .i64 l0_3), .s (.k .i64 l0_4), .s (.k .i64 l0_5)]⟩]⟩) (by kernel_rfl) allP_nil ?_
    refine W_seq ?_
    refine W_seq ?_
    obtain ⟨r7, g1, h⟩ := bind_some' h
    refine W_reg hT (ftL_cons (k := 1) (f := 50) (F := (pvalid_ct n r7)) (pvalid_ok n r7) (fun _ _ => True.intro) ftL_nil) [] [] [1, 8] [0] (s' := ⟨[(1, .c (.pt 0 0)), (8, .c (.s (.b (!r7))))], [], [⟨.blk, 34, 1, 6, .c [.s (.k .i64 l0_0), .s (.k .i64 l0_1), .s (.k .i64 l0_2), .s (.k .i64 l0_3), .s (.k .i64 l0_4), .s (.k .i64 l0_5)]⟩]⟩) (by kernel_rfl) (allP_cons.2 ⟨g1, allP_nil⟩) ?_
    refine W_cond (b := (!r7)) (by kernel_rfl) (fun g15 => ?_) (fun g15 => ?_)
    · replace h := bif_t h g15
      refine W_seq ?_
      refine W_reg hT ftL_nil [] [] [2, 3] [] (s' := ⟨[(2, .c (.s (.k .i64 0))), (3, .c (.s (.er 31 .i64 (some 1))))], [], []⟩) (by kernel_rfl) allP_nil ?_
      refine W_co [] [2, 3] [] (s' := (pCount_R (0, (some 1)))) (by kernel_rfl) (W_ret ?_)
      exact ⟨.inl rfl, by cases h; rfl⟩
    · replace h := bif_f h g15
      refine W_co [] [1] [0] (s' := ⟨[(1, .c (.pt 0 0))], [], [⟨.blk, 34, 1, 6, .c [.s (.k .i64 l0_0), .s (.k .i64 l0_1), .s (.k .i64 l0_2), .s (.k .i64 l0_3), .s (.k .i64 l0_4), .s (.k .i64 l0_5)]⟩]⟩) (by kernel_rfl) (W_skip ?_)
      refine W_seq ?_
      obtain ⟨r12, g2, h⟩ := bind_some' h
      obtain ⟨g3, h⟩ := gd_some h
      obtain ⟨g4, h⟩ := gd_some h
      refine W_regD hT (ftL_cons (k := 2) (f := 51) (F := (pahead_ct n r12)) (pahead_ok n r12) (fun _ _ => True.intro) ftL_nil) (by kernel_rfl) 6 [] [(1, false), (12, false), (15, false)] [] [1, 4] [0] (s' := ⟨[(1, .c (.pt 0 0)), (4, .c (.s (.k .i64 (r12 + (l0_2 - 1)))))], [], [⟨.blk, 34, 1, 6, .c [.s (.k .i64 l0_0), .s (.k .i64 l0_1), .s (.k .i64 l0_2), .s (.k .i64 l0_3), .s (.k .i64 l0_4), .s (.k .i64 l0_5)]⟩]⟩) (by kernel_rfl) (by kernel_rfl) (allP_cons.2 ⟨g2, (allP_cons.2 ⟨g3, (allP_cons.2 ⟨g4, allP_nil⟩)⟩)⟩) ?_
      refine W_seq ?_
      refine W_seq ?_
      refine W_reg hT ftL_nil [] [] [1, 4, 5] [0] (s' := ⟨[(1, .c (.pt 0 0)), (4, .c (.s (.k .i64 (r12 + (l0_2 - 1))))), (5, .c (.s (.k .i64 1)))], [], [⟨.blk, 34, 1, 6, .c [.s (.k .i64 l0_0), .s (.k .i64 l0_1), .s (.k .i64 l0_2), .s (.k .i64 l0_3), .s (.k .i64 l0_4), .s (.k .i64 l0_5)]⟩]⟩) (by kernel_rfl) allP_nil ?_
      refine W_block ?_
      refine W_co [] [1, 4, 5] [0] (s' := (pCount_l1_E l0_0 l0_1 l0_2 l0_3 l0_4 l0_5 (r12 + (l0_2 - 1)) 1)) (by kernel_rfl) (W_lp ((pCount_l1_P n l0_0 l0_1 l0_2 l0_3 l0_4 l0_5 r)) n (pCount_l1_M h) ?_)
      rintro fu_l1 _ ⟨i4_1, i5_1, rfl, h⟩
      cases fu_l1 with
      | zero => cases h
      | succ fu_l1 =>
        refine ⟨fu_l1, rfl, ?_⟩
        rw [pCount_l1] at h
        refine W_seq ?_
        refine W_seq ?_
        refine W_reg hT ftL_nil [] [] [1, 4, 5, 20] [0] (s' := ⟨[(1, .c (.pt 0 0)), (4, .c (.s (.k .i64 i4_1))), (5, .c (.s (.k .i64 i5_1))), (20, .c (.s (.b (decide (i5_1 < l0_1)))))], [], [⟨.blk, 34, 1, 6, .c [.s (.k .i64 l0_0), .s (.k .i64 l0_1), .s (.k .i64 l0_2), .s (.k .i64 l0_3), .s (.k .i64 l0_4), .s (.k .i64 l0_5)]⟩]⟩) (by kernel_rfl) allP_nil ?_
        refine W_cond (b := (decide (i5_1 < l0_1))) (by kernel_rfl) (fun g14 => ?_) (fun g14 => ?_)
        · replace h := bif_t h g14
          refine W_co [] [1, 4, 5] [0] (s' := ⟨[(1, .c (.pt 0 0)), (4, .c (.s (.k .i64 i4_1))), (5, .c (.s (.k .i64 i5_1)))], [], [⟨.blk, 34, 1, 6, .c [.s (.k .i64 l0_0), .s (.k .i64 l0_1), .s (.k .i64 l0_2), .s (.k .i64 l0_3), .s (.k .i64 l0_4), .s (.k .i64 l0_5)]⟩]⟩) (by kernel_rfl) (W_skip ?_)
          refine W_seq ?_
          refine W_block ?_
          obtain ⟨r27_2, g5, h⟩ := bind_some' h
          obtain ⟨g6, h⟩ := gd_some h
          refine W_reg hT (ftL_cons (k := 4) (f := 52) (F := (pdays_ct n r27_2)) (pdays_ok n r27_2) (fun _ _ => True.intro) ftL_nil) [] [] [1, 4, 5] [0] (s' := ⟨[(1, .c (.pt 0 0)), (4, .c (.s (.k .i64 (i4_1 + r27_2)))), (5, .c (.s (.k .i64 i5_1)))], [], [⟨.blk, 34, 1, 6, .c [.s (.k .i64 l0_0), .s (.k .i64 l0_1), .s (.k .i64 l0_2), .s (.k .i64 l0_3), .s (.k .i64 l0_4), .s (.k .i64 l0_5)]⟩]⟩) (by kernel_rfl) (allP_cons.2 ⟨g5, (allP_cons.2 ⟨g6, allP_nil⟩)⟩) ?_
          obtain ⟨g7, h⟩ := gd_some h
          refine W_reg hT ftL_nil [] [] [1, 4, 5] [0] (s' := (pCount_l1_E l0_0 l0_1 l0_2 l0_3 l0_4 l0_5 (i4_1 + r27_2) (i5_1 + 1))) (by kernel_rfl) (allP_cons.2 ⟨g7, allP_nil⟩) ?_
          exact pCount_l1_M h
        · replace h := bif_f h g14
          refine W_co [] [1, 4] [0] (s' := ⟨[(1, .c (.pt 0 0)), (4, .c (.s (.k .i64 i4_1)))], [], [⟨.blk, 34, 1, 6, .c [.s (.k .i64 l0_0), .s (.k .i64 l0_1), .s (.k .i64 l0_2), .s (.k .i64 l0_3), .s (.k .i64 l0_4), .s (.k .i64 l0_5)]⟩]⟩) (by kernel_rfl) (W_exit ?_)
          refine W_seq ?_
          obtain ⟨g8, h⟩ := gd_some h
          obtain ⟨g9, h⟩ := gd_some h
          obtain ⟨g10, h⟩ := gd_some h
          obtain ⟨g11, h⟩ := gd_some h
          obtain ⟨g12, h⟩ := gd_some h
          obtain ⟨g13, h⟩ := gd_some h
          refine W_reg hT ftL_nil [] [] [2, 3] [] (s' := ⟨[(2, .c (.s (.k .i64 ((i4_1 * 86400) + (((l0_3 * 3600) + (l0_4 * 60)) + l0_5))))), (3, .c (.s (.v .nilIface)))], [], []⟩) (by kernel_rfl) (allP_cons.2 ⟨g8, (allP_cons.2 ⟨g9, (allP_cons.2 ⟨g10, (allP_cons.2 ⟨g11, (allP_cons.2 ⟨g12, (allP_cons.2 ⟨g13, allP_nil⟩)⟩)⟩)⟩)⟩)⟩) ?_
          refine W_co [.er 3 31 .i64] [2, 3] [] (s' := (pCount_R (((i4_1 * 86400) + (((l0_3 * 3600) + (l0_4 * 60)) + l0_5)), none))) (by kernel_rfl) (W_ret ?_)
          exact ⟨.inl rfl, by cases h; rfl⟩
  · rintro e s' ⟨he, rfl⟩
    refine ⟨he, fun a' w' hr => ?_⟩
    exact retS_ok tabO_pr hr (rs := [.tmp 2, .tmp 3]) rfl (objs := []) (by kernel_rfl)
def pInt_j1_E (l3_6 : List UInt8) (m3_4 : Nat) : S := ⟨[(3, .c (.wh 0))], [], [⟨(.ro true), 5, 1, m3_4, .b l3_6⟩]⟩
def pInt_j1_P (n : Nat) (r : List UInt8) : S → Prop := fun s => ∃ (l3_6 : List UInt8), ∃ (m3_4 : Nat), s = pInt_j1_E l3_6 m3_4 ∧ pInt_j1 n l3_6 m3_4 = some r
theorem pInt_j1_M {n : Nat} {l3_6 : List UInt8} {m3_4 : Nat} {r : List UInt8} (h : pInt_j1 n l3_6 m3_4 = some r) : pInt_j1_P n r (pInt_j1_E l3_6 m3_4) := ⟨l3_6, m3_4, rfl, h⟩
def pInt_l2_E (l3_7 : List UInt8) (m3_5 : Nat) : S := ⟨[(3, .c (.wh 0))], [], [⟨(.ro true), 5, 1, m3_5, .b l3_7⟩]⟩
def pInt_l2_P (n : Nat) (r : List UInt8) (fu : Nat) : S → Prop := fun s => ∃ (l3_7 : List UInt8), ∃ (m3_5 : Nat), s = pInt_l2_E l3_7 m3_5 ∧ pInt_l2 n fu l3_7 m3_5 = some r
theorem pInt_l2_M {n : Nat} {l3_7 : List UInt8} {m3_5 : Nat} {r : List UInt8} {fu : Nat} (h : pInt_l2 n fu l3_7 m3_5 = some r) : pInt_l2_P n r fu (pInt_l2_E l3_7 m3_5) := ⟨l3_7, m3_5, rfl, h⟩
def pInt_l1_E (a0 : Int) (l3_4 : List UInt8) (i4_1 : Int) : S := ⟨[(0, .c (.s (.k .i64 a0))), (3, .c (.wh 0)), (4, .c (.s (.k .i64 i4_1)))], [], [⟨.row, 5, 1, l3_4.length, .b l3_4⟩]⟩
def pInt_l1_P (n : Nat) (a0 : Int) (r : List UInt8) (fu : Nat) : S → Prop := fun s => ∃ (l3_4 : List UInt8), ∃ (i4_1 : Int), s = pInt_l1_E a0 l3_4 i4_1 ∧ pInt_l1 n a0 fu l3_4 i4_1 = some r
theorem pInt_l1_M {n : Nat} {a0 : Int} {l3_4 : List UInt8} {i4_1 : Int} {r : List UInt8} {fu : Nat} (h : pInt_l1 n a0 fu l3_4 i4_1 = some r) : pInt_l1_P n a0 r fu (pInt_l1_E a0 l3_4 i4_1) := ⟨l3_4, i4_1, rfl, h⟩
def pInt_R (r : List UInt8) : S := ⟨[(2, .c (.wh 0))], [], [⟨.row, 5, 1, r.length, .b r⟩]⟩
def pInt_ct (n : Nat) (r : List UInt8) : Ct := fun args H => match args with
  | [x0] => (match aI x0 with | some l0 => some ([pInt n l0 = some r], shA H.length (.c (.wh 0)), shH H.length [⟨.row, 5, 1, r.length, .b r⟩]) | none => none)
  | _ => none
theorem pInt_ok (n : Nat) (r : List UInt8) : FnOk Try.prog Tr 15 (pInt_ct n r) := by
  refine ⟨fun args H g av objs hF hg ρ w vals hG hp ha => ?_, _, Try.func15, by kernel_rfl, by kernel_rfl⟩
  obtain ⟨x0, rfl⟩ : ∃ x0, args = [x0] := by
    unfold pInt_ct at hF; split at hF
    · exact ⟨_, rfl⟩
    · cases hF
  cases e0 : aI x0 with
  | none => simp only [pInt_ct, e0, reduceCtorEq] at hF
  | some l0 =>
  simp only [pInt_ct, e0, Option.some.injEq, Prod.mk.injEq] at hF
  obtain ⟨rfl, rfl, rfl⟩ := hF
  obtain ⟨v0, vals, rfl, k0, ha⟩ := F2.inv ha
  obtain rfl := F2.inv0 ha
  have hI : ∀ w', Kp (noB (fun _ => undef)) w w' → Tr w' := fun _ hk => Tr.keep hk.below hG
  have h : pInt n l0 = some r := hg
  have s0 := aI_ok e0 (k0)
  have hR0 := rel0 (gv := (fun _ => undef)) (n := 27) (w := w) (args := [.c (.s (.k .i64 l0))]) (H := []) (gl := []) (hpL (ps := []) F2.nil) (allRo_ok rfl) (F2.cons s0 F2.nil) GlR.nil (by simp)
  clear ha hp hg k0 e0
  refine calls_W Try.func15 rfl rfl hR0 (Q := fun e s => (e = .ret ∨ e = .normal) ∧ s = pInt_R r) ?_ ?_
  · clear hR0
    unfold pInt at h
    have hT := tabO_pr
    refine W_seq ?_
    refine W_reg hT ftL_nil [] [] [0] [] (s' := ⟨[(0, .c (.s (.k .i64 l0)))], [], []⟩) (by kernel_rfl) allP_nil ?_
    refine W_seq ?_
    refine W_reg hT ftL_nil [] [] [0, 3] [] (s' := ⟨[(0, .c (.s (.k .i64 l0))), (3, .c (.nils))], [], []⟩) (by kernel_rfl) allP_nil ?_
    refine W_seq ?_
    refine W_seq ?_
    refine W_reg hT ftL_nil [] [] [0, 3, 4] [] (s' := ⟨[(0, .c (.s (.k .i64 l0))), (3, .c (.nils)), (4, .c (.s (.k .i64 56)))], [], []⟩) (by kernel_rfl) allP_nil ?_
    refine W_block ?_
    refine W_co [.nil 3 5 1 (.b [])] [0, 3, 4] [0] (s' := (pInt_l1_E l0 [] 56)) (by kernel_rfl) (W_lp ((pInt_l1_P n l0 r)) n (pInt_l1_M h) ?_)
    rintro fu_l1 _ ⟨l3_4, i4_1, rfl, h⟩
    cases fu_l1 with
    | zero => cases h
    | succ fu_l1 =>
      refine ⟨fu_l1, rfl, ?_⟩
      rw [pInt_l1] at h
      refine W_seq ?_
      refine W_seq ?_
      refine W_reg hT ftL_nil [] [] [0, 3, 4, 6] [0] (s' := ⟨[(0, .c (.s (.k .i64 l0))), (3, .c (.wh 0)), (4, .c (.s (.k .i64 i4_1))), (6, .c (.s (.b (decide ((0 : Int) ≤ i4_1)))))], [], [⟨.row, 5, 1, l3_4.length, .b l3_4⟩]⟩) (by kernel_rfl) allP_nil ?_
      refine W_cond (b := (decide ((0 : Int) ≤ i4_1))) (by kernel_rfl) (fun g11 => ?_) (fun g11 => ?_)
      · replace h := bif_t h g11
        refine W_co [] [0, 3, 4] [0] (s' := ⟨[(0, .c (.s (.k .i64 l0))), (3, .c (.wh 0)), (4, .c (.s (.k .i64 i4_1)))], [], [⟨.row, 5, 1, l3_4.length, .b l3_4⟩]⟩) (by kernel_rfl) (W_skip ?_)
        refine W_seq ?_
        refine W_block ?_
        obtain ⟨g1, h⟩ := gd_some h
        obtain ⟨g2, h⟩ := gd_some h
        obtain ⟨g3, h⟩ := gd_some h
        refine W_reg hT ftL_nil [] [] [0, 3, 4] [2] (s' := ⟨[(0, .c (.s (.k .i64 l0))), (3, .c (.wh 0)), (4, .c (.s (.k .i64 i4_1)))], [], [⟨.row, 5, 1, (l3_4 ++ [(UInt8.ofInt (l0 / 2 ^ i4_1.toNat))]).length, .b (l3_4 ++ [(UInt8.ofInt (l0 / 2 ^ i4_1.toNat))])⟩]⟩) (by kernel_rfl) (allP_cons.2 ⟨g1, (allP_cons.2 ⟨g2, (allP_cons.2 ⟨g3, allP_nil⟩)⟩)⟩) ?_
        obtain ⟨g4, h⟩ := gd_some h
        refine W_reg hT ftL_nil [] [] [0, 3, 4] [0] (s' := (pInt_l1_E l0 (l3_4 ++ [(UInt8.ofInt (l0 / 2 ^ i4_1.toNat))]) (i4_1 - 8))) (by kernel_rfl) (allP_cons.2 ⟨g4, allP_nil⟩) ?_
        exact pInt_l1_M h
      · replace h := bif_f h g11
        refine W_co [] [3] [0] (s' := ⟨[(3, .c (.wh 0))], [], [⟨.row, 5, 1, l3_4.length, .b l3_4⟩]⟩) (by kernel_rfl) (W_exit ?_)
        refine W_join (pInt_j1_P n r) ?_ ?_
        · rintro _ ⟨l3_6, m3_4, rfl, h⟩
          unfold pInt_j1 at h
          refine W_seq ?_
          obtain ⟨g5, h⟩ := gd_some h
          refine W_reg hT (ftL_cons (k := 1) (f := 49) (F := cloneb_ct) cloneb_h (fun _ _ => True.intro) ftL_nil) [] [] [2] [1] (s' := ⟨[(2, .c (.wh 0))], [], [⟨.row, 5, 1, l3_6.length, .b l3_6⟩]⟩) (by kernel_rfl) (allP_cons.2 ⟨g5, allP_nil⟩) ?_
          refine W_co [] [2] [0] (s' := (pInt_R l3_6)) (by kernel_rfl) (W_ret ?_)
          exact ⟨.inl rfl, by cases h; rfl⟩
        · refine W_block ?_
          refine W_co [.vw 3 true] [3] [1] (s' := (pInt_l2_E l3_4 l3_4.length)) (by kernel_rfl) (W_lp ((pInt_l2_P n r)) n (pInt_l2_M h) ?_)
          rintro fu_l2 _ ⟨l3_7, m3_5, rfl, h⟩
          cases fu_l2 with
          | zero => cases h
          | succ fu_l2 =>
            refine ⟨fu_l2, rfl, ?_⟩
            rw [pInt_l2] at h
            refine W_seq ?_
            refine W_seq ?_
            rcases Bool.eq_false_or_eq_true (decide ((1 : Int) < ((m3_5 : Nat) : Int))) with g6 | g6
            · replace h := bif_t h g6
              obtain ⟨r21_5, g7, h⟩ := bind_some' h
              refine W_reg hT (ftL_cons (k := 5) (f := 48) (F := (pspare_ct n r21_5)) (pspare_ok n r21_5) (fun _ _ => True.intro) ftL_nil) [(3, true)] [] [3, 22] [0] (s' := ⟨[(3, .c (.wh 0)), (22, .c (.s (.b r21_5)))], [], [⟨(.ro true), 5, 1, m3_5, .b l3_7⟩]⟩) (by kernel_rfl) (allP_cons.2 ⟨g6, (allP_cons.2 ⟨g7, allP_nil⟩)⟩) ?_
              refine W_cond (b := r21_5) (by kernel_rfl) (fun g10 => ?_) (fun g10 => ?_)
              · replace h := bif_t h g10
                refine W_co [] [3] [0] (s' := ⟨[(3, .c (.wh 0))], [], [⟨(.ro true), 5, 1, m3_5, .b l3_7⟩]⟩) (by kernel_rfl) (W_skip ?_)
                refine W_block ?_
                obtain ⟨g8, h⟩ := gd_some h
                obtain ⟨g9, h⟩ := gd_some h
                refine W_reg hT ftL_nil [] [.vw 3 true] [3] [1] (s' := (pInt_l2_E ((l3_7.drop 1).take (m3_5 - 1)) (m3_5 - 1))) (by kernel_rfl) (allP_cons.2 ⟨g8, (allP_cons.2 ⟨g9, allP_nil⟩)⟩) ?_
                exact pInt_l2_M h
              · replace h := bif_f h g10
                refine W_co [] [3] [0] (s' := (pInt_j1_E l3_7 m3_5)) (by kernel_rfl) (W_exit ?_)
                exact pInt_j1_M h
            · replace h := bif_f h g6
              refine W_reg hT ftL_nil [(3, false)] [] [3, 22] [0] (s' := ⟨[(3, .c (.wh 0)), (22, .c (.s (.b false)))], [], [⟨(.ro true), 5, 1, m3_5, .b l3_7⟩]⟩) (by kernel_rfl) (allP_cons.2 ⟨g6, allP_nil⟩) ?_
              refine W_cond (b := false) (by kernel_rfl) (fun hb => by cases hb) (fun _ => ?_)
              refine W_co [] [3] [0] (s' := (pInt_j1_E l3_7 m3_5)) (by kernel_rfl) (W_exit ?_)
              exact pInt_j1_M h
  · rintro e s' ⟨he, rfl⟩
    refine ⟨he, fun a' w' hr => ?_⟩
    exact retS_ok tabO_pr hr (rs := [.tmp 2]) rfl (objs := [0]) (by kernel_rfl)
def pup_R (r : Bool) : S := ⟨[(0, .c (.s (.b r)))], [], []⟩
def pup_ct (n : Nat) (r : Bool) : Ct := fun args H => match args with
  | [] => some ([pup n = some r], shA H.length (.c (.s (.b r))), shH H.length [])
  | _ => none
theorem pup_ok (n : Nat) (r : Bool) : FnOk Try.prog Tr 14 (pup_ct n r) := by
  refine ⟨fun args H g av objs hF hg ρ w vals hG hp ha => ?_, _, Try.func14, by kernel_rfl, by kernel_rfl⟩
  obtain rfl : args = [] := by
    unfold pup_ct at hF; split at hF
    · exact rfl
    · cases hF
  simp only [pup_ct, Option.some.injEq, Prod.mk.injEq] at hF
  obtain ⟨rfl, rfl, rfl⟩ := hF
  obtain rfl := F2.inv0 ha
  have hI : ∀ w', Kp (noB (fun _ => undef)) w w' → Tr w' := fun _ hk => Tr.keep hk.below hG
  have h : pup n = some r := hg
  have hR0 := rel0 (gv := (fun _ => undef)) (n := 69) (w := w) (args := []) (H := []) (gl := []) (hpL (ps := []) F2.nil) (allRo_ok rfl) F2.nil GlR.nil (by simp)
  clear ha hp hg 
  refine calls_W Try.func14 rfl rfl hR0 (Q := fun e s => (e = .ret ∨ e = .normal) ∧ s = pup_R r) ?_ ?_
  · clear hR0
    unfold pup at h
    have hT := tabO_pr
    refine W_seq ?_
    refine W_reg hT ftL_nil [] [] [] [] (s' := ⟨[], [], []⟩) (by kernel_rfl) allP_nil ?_
    refine W_seq ?_
    obtain ⟨r12, g1, h⟩ := bind_some' h
    refine W_reg hT (ftL_cons (k := 1) (f := 18) (F := (pReadInt_ct n r12)) (pReadInt_ok n r12) (fun _ _ => True.intro) ftL_nil) [] [] [2] [] (s' := ⟨[(2, .c (.s (.er 31 .i64 r12.2)))], [], []⟩) (by kernel_rfl) (allP_cons.2 ⟨g1, allP_nil⟩) ?_
    refine W_seq ?_
    obtain ⟨r17, g2, h⟩ := bind_some' h
    refine W_reg hT (ftL_cons (k := 1) (f := 32) (F := (pOid_ct n r17)) (pOid_ok n r17) (fun _ _ => True.intro) ftL_nil) [] [] [2, 3, 4] [1] (s' := ⟨[(2, .c (.s (.er 31 .i64 r12.2))), (3, .c (.wh 0)), (4, .c (.s (.er 31 .i64 r17.2)))], [], [⟨.row, 5, 1, r17.1.length, .b r17.1⟩]⟩) (by kernel_rfl) (allP_cons.2 ⟨g2, allP_nil⟩) ?_
    refine W_seq ?_
    obtain ⟨r22, g3, h⟩ := bind_some' h
    refine W_reg hT (ftL_cons (k := 1) (f := 20) (F := (pTime_ct n r22)) (pTime_ok n r22) (fun _ _ => True.intro) ftL_nil) [] [] [2, 3, 4, 5, 6, 7] [0, 1] (s' := ⟨[(2, .c (.s (.er 31 .i64 r12.2))), (3, .c (.wh 0)), (4, .c (.s (.er 31 .i64 r17.2))), (5, .c (.s (.u8 r22.1))), (6, .c (.wh 1)), (7, .c (.s (.er 31 .i64 r22.2.2)))], [], [⟨.row, 5, 1, r17.1.length, .b r17.1⟩, ⟨.row, 5, 1, r22.2.1.length, .b r22.2.1⟩]⟩) (by kernel_rfl) (allP_cons.2 ⟨g3, allP_nil⟩) ?_
    refine W_seq ?_
    obtain ⟨r28, g4, h⟩ := bind_some' h
    refine W_reg hT (ftL_cons (k := 1) (f := 19) (F := (pCount_ct n r28)) (pCount_ok n r28) (fun _ _ => True.intro) ftL_nil) [] [] [2, 3, 4, 5, 6, 7, 8, 9] [0, 1] (s' := ⟨[(2, .c (.s (.er 31 .i64 r12.2))), (3, .c (.wh 0)), (4, .c (.s (.er 31 .i64 r17.2))), (5, .c (.s (.u8 r22.1))), (6, .c (.wh 1)), (7, .c (.s (.er 31 .i64 r22.2.2))), (8, .c (.s (.k .i64 r28.1))), (9, .c (.s (.er 31 .i64 r28.2)))], [], [⟨.row, 5, 1, r17.1.length, .b r17.1⟩, ⟨.row, 5, 1, r22.2.1.length, .b r22.2.1⟩]⟩) (by kernel_rfl) (allP_cons.2 ⟨g4, allP_nil⟩) ?_
    refine W_seq ?_
    obtain ⟨r31, g5, h⟩ := bind_some' h
    rcases Bool.eq_false_or_eq_true (r31 == ([255, 127] : List UInt8)) with g6 | g6
    · replace h := bif_t h g6
      obtain ⟨g7, h⟩ := gd_some h
      rcases Bool.eq_false_or_eq_true (r12.2 == (some 2)) with g8 | g8
      · replace h := bif_t h g8
        rcases Bool.eq_false_or_eq_true ((r17.2).isNone) with g9 | g9
        · replace h := bif_t h g9
          rcases Bool.eq_false_or_eq_true (r17.1 == ([42, 134, 72, 134, 247, 13] : List UInt8)) with g10 | g10
          · replace h := bif_t h g10
            rcases Bool.eq_false_or_eq_true ((r22.2.2).isNone) with g11 | g11
            · replace h := bif_t h g11
              rcases Bool.eq_false_or_eq_true (r22.1 == 23) with g12 | g12
              · replace h := bif_t h g12
                rcases Bool.eq_false_or_eq_true (r22.2.1 == ([52, 57, 49, 50, 51, 49, 50, 51, 53, 57, 53, 57, 90] : List UInt8)) with g13 | g13
                · replace h := bif_t h g13
                  rcases Bool.eq_false_or_eq_true ((r28.2).isNone) with g14 | g14
                  · replace h := bif_t h g14
                    refine W_reg hT (ftL_cons (k := 0) (f := 15) (F := (pInt_ct n r31)) (pInt_ok n r31) (fun _ _ => True.intro) ftL_nil) [(3, true), (8, true), (12, true), (17, true), (21, true), (25, true), (30, true), (34, true)] [] [0] [] (s' := ⟨[(0, .c (.s (.b (r28.1 == 1))))], [], []⟩) (by kernel_rfl) (allP_cons.2 ⟨g5, (allP_cons.2 ⟨g6, (allP_cons.2 ⟨g7, (allP_cons.2 ⟨g8, (allP_cons.2 ⟨g9, (allP_cons.2 ⟨g10, (allP_cons.2 ⟨g11, (allP_cons.2 ⟨g12, (allP_cons.2 ⟨g13, (allP_cons.2 ⟨g14, allP_nil⟩)⟩)⟩)⟩)⟩)⟩)⟩)⟩)⟩)⟩) ?_
                    refine W_co [] [0] [] (s' := (pup_R (r28.1 == 1))) (by kernel_rfl) (W_ret ?_)
                    exact ⟨.inl rfl, by cases h; rfl⟩
                  · replace h := bif_f h g14
                    refine W_reg hT (ftL_cons (k := 0) (f := 15) (F := (pInt_ct n r31)) (pInt_ok n r31) (fun _ _ => True.intro) ftL_nil) [(3, true), (8, true), (12, true), (17, true), (21, true), (25, true), (30, true), (34, false)] [] [0] [] (s' := ⟨[(0, .c (.s (.b false)))], [], []⟩) (by kernel_rfl) (allP_cons.2 ⟨g5, (allP_cons.2 ⟨g6, (allP_cons.2 ⟨g7, (allP_cons.2 ⟨g8, (allP_cons.2 ⟨g9, (allP_cons.2 ⟨g10, (allP_cons.2 ⟨g11, (allP_cons.2 ⟨g12, (allP_cons.2 ⟨g13, (allP_cons.2 ⟨g14, allP_nil⟩)⟩)⟩)⟩)⟩)⟩)⟩)⟩)⟩)⟩) ?_
                    refine W_co [] [0] [] (s' := (pup_R false)) (by kernel_rfl) (W_ret ?_)
                    exact ⟨.inl rfl, by cases h; rfl⟩
                · replace h := bif_f h g13
                  refine W_reg hT (ftL_cons (k := 0) (f := 15) (F := (pInt_ct n r31)) (pInt_ok n r31) (fun _ _ => True.intro) ftL_nil) [(3, true), (8, true), (12, true), (17, true), (21, true), (25, true), (30, false)] [] [0] [] (s' := ⟨[(0, .c (.s (.b false)))], [], []⟩) (by kernel_rfl) (allP_cons.2 ⟨g5, (allP_cons.2 ⟨g6, (allP_cons.2 ⟨g7, (allP_cons.2 ⟨g8, (allP_cons.2 ⟨g9, (allP_cons.2 ⟨g10, (allP_cons.2 ⟨g11, (allP_cons.2 ⟨g12, (allP_cons.2 ⟨g13, allP_nil⟩)⟩)⟩)⟩)⟩)⟩)⟩)⟩)⟩) ?_
                  refine W_co [] [0] [] (s' := (pup_R false)) (by kernel_rfl) (W_ret ?_)
                  exact ⟨.inl rfl, by cases h; rfl⟩
              · replace h := bif_f h g12
                refine W_reg hT (ftL_cons (k := 0) (f := 15) (F := (pInt_ct n r31)) (pInt_ok n r31) (fun _ _ => True.intro) ftL_nil) [(3, true), (8, true), (12, true), (17, true), (21, true), (25, false)] [] [0] [] (s' := ⟨[(0, .c (.s (.b false)))], [], []⟩) (by kernel_rfl) (allP_cons.2 ⟨g5, (allP_cons.2 ⟨g6, (allP_cons.2 ⟨g7, (allP_cons.2 ⟨g8, (allP_cons.2 ⟨g9, (allP_cons.2 ⟨g10, (allP_cons.2 ⟨g11, (allP_cons.2 ⟨g12, allP_nil⟩)⟩)⟩)⟩)⟩)⟩)⟩)⟩) ?_
                refine W_co [] [0] [] (s' := (pup_R false)) (by kernel_rfl) (W_ret ?_)
                exact ⟨.inl rfl, by cases h; rfl⟩
            · replace h := bif_f h g11
              refine W_reg hT (ftL_cons (k := 0) (f := 15) (F := (pInt_ct n r31)) (pInt_ok n r31) (fun _ _ => True.intro) ftL_nil) [(3, true), (8, true), (12, true), (17, true), (21, false)] [] [0] [] (s' := ⟨[(0, .c (.s (.b false)))], [], []⟩) (by kernel_rfl) (allP_cons.2 ⟨g5, (allP_cons.2 ⟨g6, (allP_cons.2 ⟨g7, (allP_cons.2 ⟨g8, (allP_cons.2 ⟨g9, (allP_cons.2 ⟨g10, (allP_cons.2 ⟨g11, allP_nil⟩)⟩)⟩)⟩)⟩)⟩)⟩) ?_
              refine W_co [] [0] [] (s' := (pup_R false)) (by kernel_rfl) (W_ret ?_)
              exact ⟨.inl rfl, by cases h; rfl⟩
          · replace h := bif_f h g10
            refine W_reg hT (ftL_cons (k := 0) (f := 15) (F := (pInt_ct n r31)) (pInt_ok n r31) (fun _ _ => True.intro) ftL_nil) [(3, true), (8, true), (12, true), (17, false)] [] [0] [] (s' := ⟨[(0, .c (.s (.b false)))], [], []⟩) (by kernel_rfl) (allP_cons.2 ⟨g5, (allP_cons.2 ⟨g6, (allP_cons.2 ⟨g7, (allP_cons.2 ⟨g8, (allP_cons.2 ⟨g9, (allP_cons.2 ⟨g10, allP_nil⟩)⟩)⟩)⟩)⟩)⟩) ?_
            refine W_co [] [0] [] (s' := (pup_R false)) (by kernel_rfl) (W_ret ?_)
            exact ⟨.inl rfl, by cases h; rfl⟩
        · replace h := bif_f h g9
          refine W_reg hT (ftL_cons (k := 0) (f := 15) (F := (pInt_ct n r31)) (pInt_ok n r31) (fun _ _ => True.intro) ftL_nil) [(3, true), (8, true), (12, false)] [] [0] [] (s' := ⟨[(0, .c (.s (.b false)))], [], []⟩) (by kernel_rfl) (allP_cons.2 ⟨g5, (allP_cons.2 ⟨g6, (allP_cons.2 ⟨g7, (allP_cons.2 ⟨g8, (allP_cons.2 ⟨g9, allP_nil⟩)⟩)⟩)⟩)⟩) ?_
          refine W_co [] [0] [] (s' := (pup_R false)) (by kernel_rfl) (W_ret ?_)
          exact ⟨.inl rfl, by cases h; rfl⟩
      · replace h := bif_f h g8
        refine W_reg hT (ftL_cons (k := 0) (f := 15) (F := (pInt_ct n r31)) (pInt_ok n r31) (fun _ _ => True.intro) ftL_nil) [(3, true), (8, false)] [] [0] [] (s' := ⟨[(0, .c (.s (.b false)))], [], []⟩) (by kernel_rfl) (allP_cons.2 ⟨g5, (allP_cons.2 ⟨g6, (allP_cons.2 ⟨g7, (allP_cons.2 ⟨g8, allP_nil⟩)⟩)⟩)⟩) ?_
        refine W_co [] [0] [] (s' := (pup_R false)) (by kernel_rfl) (W_ret ?_)
        exact ⟨.inl rfl, by cases h; rfl⟩
    · replace h := bif_f h g6
      refine W_reg hT (ftL_cons (k := 0) (f := 15) (F := (pInt_ct n r31)) (pInt_ok n r31) (fun _ _ => True.intro) ftL_nil) [(3, false)] [] [0] [] (s' := ⟨[(0, .c (.s (.b false)))], [], []⟩) (by kernel_rfl) (allP_cons.2 ⟨g5, (allP_cons.2 ⟨g6, allP_nil⟩)⟩) ?_
      refine W_co [] [0] [] (s' := (pup_R false)) (by kernel_rfl) (W_ret ?_)
      exact ⟨.inl rfl, by cases h; rfl⟩
  · rintro e s' ⟨he, rfl⟩
    refine ⟨he, fun a' w' hr => ?_⟩
    exact retS_ok tabO_pr hr (rs := [.tmp 0]) rfl (objs := []) (by kernel_rfl)
end Go.Proofs.Ytliilihbnhdemaa
