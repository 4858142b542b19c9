import Derived.Test.YtcdljciflkefaaaZ2
import Derived.Test.YtcdljciflkefaaaProg
set_option linter.unusedVariables false
set_option linter.unusedSimpArgs false
section
namespace Go.Proofs.Ytcdljciflkefaaa
open Go.RowKit Go.Ch Go.Sx
def tabL_tva : List (TypeId × Ti) := [(3, ⟨.int .i64, 1, 8, true, some [.int .i64]⟩),
 (4, ⟨.bool, 1, 1, true, some [.bool]⟩),
 (5, ⟨.int .u8, 1, 1, true, some [.int .u8]⟩),
 (9, ⟨.str, 1, 16, true, some [.str]⟩),
 (23, ⟨.sl 5, 1, 24, false, some [.nils]⟩),
 (25, ⟨.ifc, 1, 16, true, some [.ifc]⟩),
 (29, ⟨.int .i64, 1, 8, true, some [.int .i64]⟩),
 (33, ⟨.ptr 58, 1, 8, true, some [.ptr]⟩),
 (47, ⟨.ptr 68, 1, 8, true, some [.ptr]⟩)]
def tab_tva : Tab := fun t => (tabL_tva).lookup t
theorem tabE_tva : (tabL_tva.map fun p => tiOf Try.prog p.1) = tabL_tva.map fun p => some p.2 := by kernel_rfl
theorem tabO_tva : TabOk Try.prog tab_tva := tab_of tabE_tva
def rMark (n : Nat) (a0 : UInt8) : Option (Bool) :=
 gd ((32 : UInt8) ≠ 0) <|
 some ((a0 % (32 : UInt8)) != 31)
def rHead (n : Nat) (a0 : UInt8) (a1 : Int) : Option (List UInt8) :=
 bif (decide (a1 < (128 : Int))) then
 some [a0, (UInt8.ofInt a1)]
 else
 bif (decide (a1 < (256 : Int))) then
 some [a0, 129, (UInt8.ofInt a1)]
 else
 gd ((256 : Int) ≠ 0) <|
 gd (okI .i64 (Int.tdiv a1 256)) <|
 gd ((256 : Int) ≠ 0) <|
 some [a0, 130, (UInt8.ofInt (Int.tdiv a1 256)), (UInt8.ofInt (Int.tmod a1 256))]
def rEl (n : Nat) (a0 : UInt8) (a1 : List UInt8) : Option (List UInt8) :=
 (rHead n a0 ((a1.length : Nat) : Int)).bind fun r8 =>
 gd (rmB (r8.length + a1.length) 1) <|
 some (r8 ++ a1)
def tup (n : Nat) : Option (Bool) :=
 (wNew n).bind fun r7 =>
 (tNewR n [2, 129, 1, 5]).bind fun r9 =>
 (wOpen1 n 0 [] 48).bind fun r17 =>
 (wPut2 n 0 [] 48 [] 2 [5]).bind fun r20 =>
 (wClose2 n 0 [] 48 r20).bind fun r22 =>
 (wBytes1 n 0 r22).bind fun r25 =>
 (tTake n r9.1 0 r9.2 2).bind fun r30 =>
 bif (r22 == ([48, 3, 2, 1, 5] : List UInt8)) then
  gd (¬((r30.2.2 : Option Int) = none ∧ ((some 2) : Option Int) = none)) <|
  some (r30.2.2 == (some 2))
 else
  some false
def lHeads (n : Nat) (a0 : UInt8) (a1 : Int) : Option (Bool) :=
 (tup n).bind fun r9 =>
 (tHead n a0 a1).bind fun r13 =>
 (rMark n a0).bind fun r17 =>
 bif (!r17) then
  bif r9 then
   gd (¬((r13.2 : Option Int) = none ∧ ((some 1) : Option Int) = none)) <|
   bif (r13.2 == (some 1)) then
    some (((r13.1.length : Nat) : Int) == 0)
   else
    some false
  else
   some false
 else
  bif (decide (a1 < (0 : Int))) then
   bif r9 then
    gd (¬((r13.2 : Option Int) = none ∧ ((some 1) : Option Int) = none)) <|
    bif (r13.2 == (some 1)) then
     some (((r13.1.length : Nat) : Int) == 0)
    else
     some false
   else
    some false
  else
   bif (decide ((65535 : Int) < a1)) then
    bif r9 then
     gd (¬((r13.2 : Option Int) = none ∧ ((some 4) : Option Int) = none)) <|
     bif (r13.2 == (some 4)) then
      some (((r13.1.length : Nat) : Int) == 0)
     else
      some false
    else
     some false
   else
    bif r9 then
     bif ((r13.2).isNone) then
      (rHead n a0 a1).bind fun r58 =>
      some (r13.1 == r58)
     else
      some false
    else
     some false
def lStays_l4 (n : Nat) (r26 : Bool) (r59 : List UInt8) (r94 : List UInt8) (r121 : Int × List UInt8 × Option Int) (r126 : Int × List UInt8 × Option Int) : Nat → List UInt8 → Int → Option (Bool)
 | 0, _, _ => none
 | fu_l4 + 1, l20_2, i25_2 =>
 bif (decide (i25_2 < ((r121.2.1.length : Nat) : Int))) then
 gd (0 ≤ i25_2) <|
 gd (i25_2 < ((r121.2.1.length : Nat) : Int)) <|
 gd (0 ≤ i25_2) <|
 gd (i25_2 < ((r121.2.1.length : Nat) : Int)) <|
 gd (okI .i64 (i25_2 + 1)) <|
 (lStays_l4 n r26 r59 r94 r121 r126 fu_l4) (l20_2.set i25_2.toNat ((l20_2.getD i25_2.toNat 0) + (1 : UInt8))) (i25_2 + 1)
 else
 bif r26 then
 bif (r59 == r94) then
 bif (r59 == r94) then
 bif (r121.2.1 == r126.2.1) then
 some (((r121.2.2).isNone) == ((r126.2.2).isNone))
 else
 some false
 else
 some false
 else
 some false
 else
 some false
def lStays_l3 (n : Nat) (r26 : Bool) (r44 : List UInt8 × List Int) (r46 : List UInt8 × List Int) (r59 : List UInt8) (r94 : List UInt8) : Nat → List UInt8 → Int → Option (Bool)
 | 0, _, _ => none
 | fu_l3 + 1, l13_2, i17_2 =>
  bif (decide (i17_2 < ((r59.length : Nat) : Int))) then
   gd (0 ≤ i17_2) <|
   gd (i17_2 < ((r59.length : Nat) : Int)) <|
   gd (0 ≤ i17_2) <|
   gd (i17_2 < ((r59.length : Nat) : Int)) <|
   gd (okI .i64 (i17_2 + 1)) <|
   (lStays_l3 n r26 r44 r46 r59 r94 fu_l3) (l13_2.set i17_2.toNat ((l13_2.getD i17_2.toNat 0) + (1 : UInt8))) (i17_2 + 1)
  else
   (wBytes1 n 0 r59).bind fun r116 =>
   (tWhole n r44.1 0 r44.2).bind fun r121 =>
   (tWhole n r46.1 0 r46.2).bind fun r126 =>
   lStays_l4 n r26 r59 r94 r121 r126 n r121.2.1 0
def lStays_l2 (n : Nat) (a0 : List UInt8) (a1 : List UInt8) (r26 : Bool) (r44 : List UInt8 × List Int) (r46 : List UInt8 × List Int) (r59 : List UInt8) : Nat → List UInt8 → Int → Option (Bool)
 | 0, _, _ => none
 | fu_l2 + 1, l8_2, i12_2 =>
  bif (decide (i12_2 < ((([] ++ a1).length : Nat) : Int))) then
   gd (0 ≤ i12_2) <|
   gd (i12_2 < ((([] ++ a1).length : Nat) : Int)) <|
   gd (0 ≤ i12_2) <|
   gd (i12_2 < ((([] ++ a1).length : Nat) : Int)) <|
   gd (okI .i64 (i12_2 + 1)) <|
   (lStays_l2 n a0 a1 r26 r44 r46 r59 fu_l2) (l8_2.set i12_2.toNat ((l8_2.getD i12_2.toNat 0) + (1 : UInt8))) (i12_2 + 1)
  else
   (wBytes1 n 0 r59).bind fun r90 =>
   (rEl n 4 a0).bind fun r94 =>
   lStays_l3 n r26 r44 r46 r59 r94 n r59 0
def lStays_l1 (n : Nat) (a0 : List UInt8) (a1 : List UInt8) (r26 : Bool) (r44 : List UInt8 × List Int) (r46 : List UInt8 × List Int) (r59 : List UInt8) : Nat → List UInt8 → Int → Option (Bool)
 | 0, _, _ => none
 | fu_l1 + 1, l6_2, i11_2 =>
 bif (decide (i11_2 < ((([] ++ a0).length : Nat) : Int))) then
 gd (0 ≤ i11_2) <|
 gd (i11_2 < ((([] ++ a0).length : Nat) : Int)) <|
 gd (0 ≤ i11_2) <|
 gd (i11_2 < ((([] ++ a0).length : Nat) : Int)) <|
 gd (okI .i64 (i11_2 + 1)) <|
 (lStays_l1 n a0 a1 r26 r44 r46 r59 fu_l1) (l6_2.set i11_2.toNat ((l6_2.getD i11_2.toNat 0) + (1 : UInt8))) (i11_2 + 1)
 else
 lStays_l2 n a0 a1 r26 r44 r46 r59 n ([] ++ a1) 0
def rMark_R (r : Bool) : S := ⟨[(2, kB r)], [], []⟩
def rMark_ct (n : Nat) (r : Bool) : Ct := ctc rU8.rd fun _ l0 => ct0 fun H => ([rMark n l0 = some r], shA H.length (kB r), shH H.length [])
theorem rMark_ok (n : Nat) (r : Bool) : FnOk Try.prog Tr 9 (rMark_ct n r) := by
 refine fnok Try.func9 ?_
 refine HO_c rU8 fun l0 _ => HO_0 tabO_tva (rMark_R r) [.tmp 2] [] 6 Try.func9 fun w hG h => ?_
 unfold rMark at h
 have hT := tabO_tva
 refine Vrs hT [] ⟨[(0, kU l0)], [], []⟩ ?_
 obtain ⟨g1, h⟩ := gd_some h
 refine Vgs hT fN [] [] [] ⟨[(2, kB ((l0 % (32 : UInt8)) != 31))], [], []⟩ (aP g1 aN) ?_
 refine Vc [] [] (rMark_R ((l0 % (32 : UInt8)) != 31)) (W_ret ?_)
 exact ⟨.inl rfl, by cases h; rfl⟩
def rHead_R (r : List UInt8) : S := ⟨[(4, kH 0)], [], [nb 5 r]⟩
def rHead_ct (n : Nat) (r : List UInt8) : Ct := ctc rU8.rd fun _ l0 => ctc rI.rd fun _ l1 => ct0 fun H => ([rHead n l0 l1 = some r], shA H.length (kH 0), shH H.length [nb 5 r])
theorem rHead_ok (n : Nat) (r : List UInt8) : FnOk Try.prog Tr 10 (rHead_ct n r) := by
 refine fnok Try.func10 ?_
 refine HO_c rU8 fun l0 _ => HO_c rI fun l1 _ => HO_0 tabO_tva (rHead_R r) [.tmp 4] [0] 25 Try.func10 fun w hG h => ?_
 unfold rHead at h
 have hT := tabO_tva
 refine Vrs hT [] ⟨[(0, kU l0), (1, kI l1)], [], []⟩ ?_
 refine W_seq ?_
 refine Vrs hT [] ⟨[(0, kU l0), (1, kI l1), (6, kB (decide (l1 < (128 : Int))))], [], []⟩ ?_
 refine Vi ((decide (l1 < (128 : Int)))) (fun g5 => ?_) (fun g5 => ?_)
 ·replace h := bif_t h g5
  refine Vrs hT [0] ⟨[(4, kH 0)], [], [⟨.row, 5, 1, 2, .b [l0, (UInt8.ofInt l1)]⟩]⟩ ?_
  refine Vc [] [0] (rHead_R [l0, (UInt8.ofInt l1)]) (W_ret ?_)
  exact ⟨.inl rfl, by cases h; rfl⟩
 ·replace h := bif_f h g5
  refine W_skip ?_
  refine W_seq ?_
  refine Vrs hT [] ⟨[(0, kU l0), (1, kI l1), (12, kB (decide (l1 < (256 : Int))))], [], []⟩ ?_
  refine Vi ((decide (l1 < (256 : Int)))) (fun g4 => ?_) (fun g4 => ?_)
  ·replace h := bif_t h g4
   refine Vrs hT [0] ⟨[(4, kH 0)], [], [⟨.row, 5, 1, 3, .b [l0, 129, (UInt8.ofInt l1)]⟩]⟩ ?_
   refine Vc [] [0] (rHead_R [l0, 129, (UInt8.ofInt l1)]) (W_ret ?_)
   exact ⟨.inl rfl, by cases h; rfl⟩
  ·replace h := bif_f h g4
   refine W_skip ?_
   obtain ⟨g1, g2, g3, h⟩ := gd3 h
   refine Vgs hT fN [] [] [0] ⟨[(4, kH 0)], [], [⟨.row, 5, 1, 4, .b [l0, 130, (UInt8.ofInt (Int.tdiv l1 256)), (UInt8.ofInt (Int.tmod l1 256))]⟩]⟩ (aP g1 (aP g2 (aP g3 aN))) ?_
   refine Vc [] [0] (rHead_R [l0, 130, (UInt8.ofInt (Int.tdiv l1 256)), (UInt8.ofInt (Int.tmod l1 256))]) (W_ret ?_)
   exact ⟨.inl rfl, by cases h; rfl⟩
def tup_R (r : Bool) : S := ⟨[(0, kB r)], [], []⟩
def tup_ct (n : Nat) (r : Bool) : Ct := ct0 fun H => ([tup n = some r], shA H.length (kB r), shH H.length [])
theorem tup_ok (n : Nat) (r : Bool) : FnOk Try.prog Tr 7 (tup_ct n r) := by
 refine fnok Try.func7 ?_
 refine HO_0 tabO_tva (tup_R r) [.tmp 0] [] 45 Try.func7 fun w hG h => ?_
 unfold tup at h
 have hT := tabO_tva
 refine Vrs hT [] ⟨[], [], []⟩ ?_
 obtain ⟨r7, g1, h⟩ := bind_some' h
 refine Vgs hT (fT 0 (wNew_ok n r7) fN) [] [] [0, 1, 2] ⟨[(1, kP 0 0)], [], [⟨.blk, 58, 1, 2, .c [.wh 1, .s (.v .nilIface)]⟩, ⟨.row, 64, 2, 1, .c [.s (.u8 0), .wh 2]⟩, ⟨.row, 5, 1, 0, .b []⟩]⟩ (aP g1 aN) ?_
 obtain ⟨r9, g2, h⟩ := bind_some' h
 refine Vgs hT (fT 1 (tNewR_ok n r9) fN) [] [] [0, 1, 2, 4, 5, 6] ⟨[(1, kP 0 0), (2, kP 3 0)], [], [⟨.blk, 58, 1, 2, .c [.wh 1, .s (.v .nilIface)]⟩, ⟨.row, 64, 2, 1, .c [.s (.u8 0), .wh 2]⟩, ⟨.row, 5, 1, 0, .b []⟩, ⟨.blk, 68, 1, 3, .c [.wh 4, .s (.k .i64 0), .wh 5]⟩, nb 5 r9.1, nz 3 r9.2]⟩ (aP g2 aN) ?_
 refine W_seq ?_
 refine Vrs hT [0, 1, 2, 3, 4, 5] ⟨[(1, kP 0 0), (2, kP 3 0), (15, kB false)], [], [⟨.blk, 58, 1, 2, .c [.wh 1, .s (.v .nilIface)]⟩, ⟨.row, 64, 2, 1, .c [.s (.u8 0), .wh 2]⟩, ⟨.row, 5, 1, 0, .b []⟩, ⟨.blk, 68, 1, 3, .c [.wh 4, .s (.k .i64 0), .wh 5]⟩, nb 5 r9.1, nz 3 r9.2]⟩ ?_
 refine Vi (false) (fun hb => by cases hb) (fun _ => ?_)
 refine W_skip ?_
 obtain ⟨r17, g3, h⟩ := bind_some' h
 refine Vgs hT (fM 1 (wOpen1_ok n r17) fN) [] [] [0, 6, 7, 8, 3, 4, 5] ⟨[(1, kP 0 0), (2, kP 4 0)], [], [⟨.blk, 58, 1, 2, .c [.wh 1, .s (.er 29 .i64 none)]⟩, ⟨.row, 64, 2, 2, .c [.s (.u8 0), .wh 2, .s (.u8 48), .wh 3]⟩, nb 5 [], ⟨.row, 5, 1, 0, .b []⟩, ⟨.blk, 68, 1, 3, .c [.wh 5, .s (.k .i64 0), .wh 6]⟩, nb 5 r9.1, nz 3 r9.2]⟩ (aP g3 aN) ?_
 obtain ⟨r20, g4, h⟩ := bind_some' h
 refine Vgs hT (fM 2 (wPut2_ok n r20) fN) [] [] [0, 8, 9, 10, 4, 5, 6] ⟨[(1, kP 0 0), (2, kP 4 0)], [], [⟨.blk, 58, 1, 2, .c [.wh 1, .s (.er 29 .i64 none)]⟩, ⟨.row, 64, 2, 2, .c [.s (.u8 0), .wh 2, .s (.u8 48), .wh 3]⟩, nb 5 [], nb 5 r20, ⟨.blk, 68, 1, 3, .c [.wh 5, .s (.k .i64 0), .wh 6]⟩, nb 5 r9.1, nz 3 r9.2]⟩ (aP g4 aN) ?_
 obtain ⟨r22, g5, h⟩ := bind_some' h
 refine Vgs hT (fM 1 (wClose2_ok n r22) fN) [] [] [0, 7, 8, 4, 5, 6] ⟨[(1, kP 0 0), (2, kP 3 0)], [], [⟨.blk, 58, 1, 2, .c [.wh 1, .s (.er 29 .i64 none)]⟩, ⟨.row, 64, 2, 1, .c [.s (.u8 0), .wh 2]⟩, nb 5 r22, ⟨.blk, 68, 1, 3, .c [.wh 4, .s (.k .i64 0), .wh 5]⟩, nb 5 r9.1, nz 3 r9.2]⟩ (aP g5 aN) ?_
 obtain ⟨r25, g6, h⟩ := bind_some' h
 refine Vgs hT (fM 1 (wBytes1_ok n r25) fN) [] [] [3, 4, 5, 8] ⟨[(2, kP 0 0), (3, kH 3), (4, kE 29 none)], [], [⟨.blk, 68, 1, 3, .c [.wh 1, .s (.k .i64 0), .wh 2]⟩, nb 5 r9.1, nz 3 r9.2, nb 5 r22]⟩ (aP g6 aN) ?_
 obtain ⟨r30, g7, h⟩ := bind_some' h
 refine Vgs hT (fM 1 (tTake_ok n r30) fN) [] [] [3] ⟨[(3, kH 0), (4, kE 29 none), (6, kE 29 r30.2.2)], [], [nb 5 r22]⟩ (aP g7 aN) ?_
 refine W_seq ?_
 rcases Bool.eq_false_or_eq_true (r22 == ([48, 3, 2, 1, 5] : List UInt8)) with g8 | g8
 ·replace h := bif_t h g8
  obtain ⟨g9, h⟩ := gd_some h
  refine Vg hT fN [(7, true)] [] [] ⟨[(0, kB (r30.2.2 == (some 2)))], [], []⟩ (aP g8 (aP g9 aN)) ?_
  refine Vc [] [] (tup_R (r30.2.2 == (some 2))) (W_ret ?_)
  exact ⟨.inl rfl, by cases h; rfl⟩
 ·replace h := bif_f h g8
  refine Vg hT fN [(7, false)] [] [] ⟨[(0, kB false)], [], []⟩ (aP g8 aN) ?_
  refine Vc [] [] (tup_R false) (W_ret ?_)
  exact ⟨.inl rfl, by cases h; rfl⟩
def lHeads_R (r : Bool) : S := ⟨[(4, kB r)], [], []⟩
def lHeads_ct (n : Nat) (r : Bool) : Ct := ctc rU8.rd fun _ l0 => ctc rI.rd fun _ l1 => ct0 fun H => ([lHeads n l0 l1 = some r], shA H.length (kB r), shH H.length [])
theorem lHeads_ok (n : Nat) (r : Bool) : FnOk Try.prog Tr 3 (lHeads_ct n r) := by
 refine fnok Try.func3 ?_
 refine HO_c rU8 fun l0 _ => HO_c rI fun l1 _ => HO_0 tabO_tva (lHeads_R r) [.tmp 4] [] 62 Try.func3 fun w hG h => ?_
 unfold lHeads at h
 have hT := tabO_tva
 refine Vrs hT [] ⟨[(0, kU l0), (1, kI l1)], [], []⟩ ?_
 obtain ⟨r9, g1, h⟩ := bind_some' h
 refine Vgs hT (fT 0 (tup_ok n r9) fN) [] [] [] ⟨[(0, kU l0), (1, kI l1), (5, kB r9)], [], []⟩ (aP g1 aN) ?_
 obtain ⟨r13, g2, h⟩ := bind_some' h
 refine Vgs hT (fT 2 (tHead_ok n r13) fN) [] [] [0] ⟨[(0, kU l0), (1, kI l1), (5, kB r9), (6, kH 0), (7, kE 29 r13.2)], [], [nb 5 r13.1]⟩ (aP g2 aN) ?_
 obtain ⟨r17, g3, h⟩ := bind_some' h
 refine Vgs hT (fT 1 (rMark_ok n r17) fN) [] [] [0] ⟨[(0, kU l0), (1, kI l1), (5, kB r9), (6, kH 0), (7, kE 29 r13.2), (8, kB r17)], [], [nb 5 r13.1]⟩ (aP g3 aN) ?_
 refine W_seq ?_
 refine W_seq ?_
 rcases Bool.eq_false_or_eq_true (!r17) with g4 | g4
 ·replace h := bif_t h g4
  refine Vg hT fN [(2, true)] [] [0] ⟨[(0, kU l0), (1, kI l1), (5, kB r9), (6, kH 0), (7, kE 29 r13.2), (23, kB true)], [], [nb 5 r13.1]⟩ (aP g4 aN) ?_
  refine Vi (true) (fun _ => ?_) (fun hb => by cases hb)
  refine W_seq ?_
  rcases Bool.eq_false_or_eq_true r9 with g5 | g5
  ·replace h := bif_t h g5
   obtain ⟨g6, h⟩ := gd_some h
   rcases Bool.eq_false_or_eq_true (r13.2 == (some 1)) with g7 | g7
   ·replace h := bif_t h g7
    refine Vg hT fN [(1, true), (6, true)] [] [] ⟨[(4, kB (((r13.1.length : Nat) : Int) == 0))], [], []⟩ (aP g5 (aP g6 (aP g7 aN))) ?_
    refine Vc [] [] (lHeads_R (((r13.1.length : Nat) : Int) == 0)) (W_ret ?_)
    exact ⟨.inl rfl, by cases h; rfl⟩
   ·replace h := bif_f h g7
    refine Vg hT fN [(1, true), (6, false)] [] [] ⟨[(4, kB false)], [], []⟩ (aP g5 (aP g6 (aP g7 aN))) ?_
    refine Vc [] [] (lHeads_R false) (W_ret ?_)
    exact ⟨.inl rfl, by cases h; rfl⟩
  ·replace h := bif_f h g5
   refine Vg hT fN [(1, false)] [] [] ⟨[(4, kB false)], [], []⟩ (aP g5 aN) ?_
   refine Vc [] [] (lHeads_R false) (W_ret ?_)
   exact ⟨.inl rfl, by cases h; rfl⟩
 ·replace h := bif_f h g4
  refine Vg hT fN [(2, false)] [] [0] ⟨[(0, kU l0), (1, kI l1), (5, kB r9), (6, kH 0), (7, kE 29 r13.2), (23, kB (decide (l1 < (0 : Int))))], [], [nb 5 r13.1]⟩ (aP g4 aN) ?_
  refine Vi ((decide (l1 < (0 : Int)))) (fun g18 => ?_) (fun g18 => ?_)
  ·replace h := bif_t h g18
   refine W_seq ?_
   rcases Bool.eq_false_or_eq_true r9 with g8 | g8
   ·replace h := bif_t h g8
    obtain ⟨g9, h⟩ := gd_some h
    rcases Bool.eq_false_or_eq_true (r13.2 == (some 1)) with g10 | g10
    ·replace h := bif_t h g10
     refine Vg hT fN [(1, true), (6, true)] [] [] ⟨[(4, kB (((r13.1.length : Nat) : Int) == 0))], [], []⟩ (aP g8 (aP g9 (aP g10 aN))) ?_
     refine Vc [] [] (lHeads_R (((r13.1.length : Nat) : Int) == 0)) (W_ret ?_)
     exact ⟨.inl rfl, by cases h; rfl⟩
    ·replace h := bif_f h g10
     refine Vg hT fN [(1, true), (6, false)] [] [] ⟨[(4, kB false)], [], []⟩ (aP g8 (aP g9 (aP g10 aN))) ?_
     refine Vc [] [] (lHeads_R false) (W_ret ?_)
     exact ⟨.inl rfl, by cases h; rfl⟩
   ·replace h := bif_f h g8
    refine Vg hT fN [(1, false)] [] [] ⟨[(4, kB false)], [], []⟩ (aP g8 aN) ?_
    refine Vc [] [] (lHeads_R false) (W_ret ?_)
    exact ⟨.inl rfl, by cases h; rfl⟩
  ·replace h := bif_f h g18
   refine W_skip ?_
   refine W_seq ?_
   refine Vrs hT [0] ⟨[(0, kU l0), (1, kI l1), (5, kB r9), (6, kH 0), (7, kE 29 r13.2), (36, kB (decide ((65535 : Int) < l1)))], [], [nb 5 r13.1]⟩ ?_
   refine Vi ((decide ((65535 : Int) < l1))) (fun g17 => ?_) (fun g17 => ?_)
   ·replace h := bif_t h g17
    refine W_seq ?_
    rcases Bool.eq_false_or_eq_true r9 with g11 | g11
    ·replace h := bif_t h g11
     obtain ⟨g12, h⟩ := gd_some h
     rcases Bool.eq_false_or_eq_true (r13.2 == (some 4)) with g13 | g13
     ·replace h := bif_t h g13
      refine Vg hT fN [(1, true), (6, true)] [] [] ⟨[(4, kB (((r13.1.length : Nat) : Int) == 0))], [], []⟩ (aP g11 (aP g12 (aP g13 aN))) ?_
      refine Vc [] [] (lHeads_R (((r13.1.length : Nat) : Int) == 0)) (W_ret ?_)
      exact ⟨.inl rfl, by cases h; rfl⟩
     ·replace h := bif_f h g13
      refine Vg hT fN [(1, true), (6, false)] [] [] ⟨[(4, kB false)], [], []⟩ (aP g11 (aP g12 (aP g13 aN))) ?_
      refine Vc [] [] (lHeads_R false) (W_ret ?_)
      exact ⟨.inl rfl, by cases h; rfl⟩
    ·replace h := bif_f h g11
     refine Vg hT fN [(1, false)] [] [] ⟨[(4, kB false)], [], []⟩ (aP g11 aN) ?_
     refine Vc [] [] (lHeads_R false) (W_ret ?_)
     exact ⟨.inl rfl, by cases h; rfl⟩
   ·replace h := bif_f h g17
    refine Vc [] [0] ⟨[(0, kU l0), (1, kI l1), (5, kB r9), (6, kH 0), (7, kE 29 r13.2)], [], [nb 5 r13.1]⟩ (W_skip ?_)
    refine W_seq ?_
    rcases Bool.eq_false_or_eq_true r9 with g14 | g14
    ·replace h := bif_t h g14
     rcases Bool.eq_false_or_eq_true ((r13.2).isNone) with g15 | g15
     ·replace h := bif_t h g15
      obtain ⟨r58, g16, h⟩ := bind_some' h
      refine Vd hT (fT 10 (rHead_ok n r58) fN) 12 [(1, true), (5, true)] [(53, false), (55, false), (59, false)] [] [] ⟨[(4, kB (r13.1 == r58))], [], []⟩ (aP g14 (aP g15 (aP g16 aN))) ?_
      refine Vc [] [] (lHeads_R (r13.1 == r58)) (W_ret ?_)
      exact ⟨.inl rfl, by cases h; rfl⟩
     ·replace h := bif_f h g15
      refine Vd hT fN 12 [(1, true), (5, false)] [(53, false), (55, false), (59, false)] [] [] ⟨[(4, kB false)], [], []⟩ (aP g14 (aP g15 aN)) ?_
      refine Vc [] [] (lHeads_R false) (W_ret ?_)
      exact ⟨.inl rfl, by cases h; rfl⟩
    ·replace h := bif_f h g14
     refine Vd hT fN 12 [(1, false)] [(53, false), (55, false), (59, false)] [] [] ⟨[(4, kB false)], [], []⟩ (aP g14 aN) ?_
     refine Vc [] [] (lHeads_R false) (W_ret ?_)
     exact ⟨.inl rfl, by cases h; rfl⟩
end Go.Proofs.Ytcdljciflkefaaa
end
section
namespace Go.Sx
open Go Go.RowKit Go.Ch Go.Proofs.Ytcdljciflkefaaa
theorem mk_all : ∀ i : Fin 256, ((UInt8.ofNat i.1 &&& 31) != 31) = ((UInt8.ofNat i.1 % 32) != 31) := by decide +kernel
theorem mk_eq (x : UInt8) : ((x &&& 31) != 31) = ((x % 32) != 31) := by simpa using mk_all ⟨x.toNat, x.toNat_lt⟩
theorem tvalid_is (n : Nat) (x : UInt8) : tvalid n x = some (x % 32 != 31) := by unfold tvalid; rw [mk_eq]
theorem rMark_is (n : Nat) (x : UInt8) : rMark n x = some (x % 32 != 31) := by unfold rMark; rw [gd_pos (by decide)]
theorem ofInt_mod (x : Int) : UInt8.ofInt (x % 256) = UInt8.ofInt x := by
 unfold UInt8.ofInt; congr 2; omega
def hdF (m : UInt8) (k : Int) : List UInt8 := bif decide (k < 128) then [m, UInt8.ofInt k] else bif decide (k < 256) then [m, 129, UInt8.ofInt k] else [m, 130, UInt8.ofInt (k / 256), UInt8.ofInt k]
theorem hdF_len (m : UInt8) (k : Int) : (hdF m k).length ≤ 4 := by
 unfold hdF; cases decide (k < 128) with
 | true => simp
 | false => cases decide (k < 256) with
  | true => simp
  | false => simp
theorem tHead_is (n : Nat) {m : UInt8} {k : Int} (hm : (m % 32 != 31) = true) (h0 : 0 ≤ k) (h1 : k ≤ 65535) : tHead n m k = some (hdF m k, none) := by
 unfold tHead hdF
 rw [tvalid_is, Option.bind_some, ite_f (by rw [hm]; rfl), ite_f (decide_eq_false (by omega)), ite_f (decide_eq_false (by omega))]
 cases decide (k < 128) with
 | true => rfl
 | false => cases decide (k < 256) with
  | true => rfl
  | false => simp only [cond_false]; rw [gd_pos (by decide), gd_pos (by decide)]; rfl
theorem rHead_is (n : Nat) {m : UInt8} {k : Int} (h0 : 0 ≤ k) (h1 : k ≤ 9223372036854775807) : rHead n m k = some (hdF m k) := by
 unfold rHead hdF
 cases decide (k < 128) with
 | true => rfl
 | false => cases decide (k < 256) with
  | true => rfl
  | false =>
   simp only [cond_false]
   have e : Int.tdiv k 256 = k / 256 := Int.tdiv_eq_ediv_of_nonneg h0
   have e2 : Int.tmod k 256 = k % 256 := Int.tmod_eq_emod_of_nonneg h0
   rw [gd_pos (by decide), e, e2, gd_pos (okI64 (by omega) (by omega)), gd_pos (by decide), ofInt_mod]
theorem rEl_is (n : Nat) (m : UInt8) {b : List UInt8} (h : b.length ≤ 1000000) : rEl n m b = some (hdF m (b.length : Int) ++ b) := by
 unfold rEl
 have := hdF_len m (b.length : Int)
 rw [rHead_is n (by omega) (by omega), Option.bind_some, gd_pos (by unfold rmB; omega)]
theorem tup_is : tup 1100 = some true := by decide +kernel
theorem lHeads_is (m : UInt8) (k : Int) : lHeads 1100 m k = some true := by
 unfold lHeads
 rw [tup_is, Option.bind_some, rMark_is]
 cases hm : (m % 32 != 31) with
 | false =>
  have e : tHead 1100 m k = some ([], some 1) := by unfold tHead; rw [tvalid_is, hm]; rfl
  rw [e, Option.bind_some, Option.bind_some]
  simp only [Bool.not_false, cond_true]
  rw [gd_pos (by simp)]; rfl
 | true =>
  by_cases h0 : k < 0
  ·have e : tHead 1100 m k = some ([], some 1) := by unfold tHead; rw [tvalid_is, hm, Option.bind_some, ite_f (by rfl), ite_t (decide_eq_true h0)]
   rw [e, Option.bind_some, Option.bind_some, ite_f (by rfl), ite_t (decide_eq_true h0)]
   simp only [cond_true]
   rw [gd_pos (by simp)]; rfl
  ·by_cases h1 : 65535 < k
   ·have e : tHead 1100 m k = some ([], some 4) := by unfold tHead; rw [tvalid_is, hm, Option.bind_some, ite_f (by rfl), ite_f (decide_eq_false h0), ite_t (decide_eq_true h1)]
    rw [e, Option.bind_some, Option.bind_some, ite_f (by rfl), ite_f (decide_eq_false h0), ite_t (decide_eq_true h1)]
    simp only [cond_true]
    rw [gd_pos (by simp)]; rfl
   ·rw [tHead_is _ hm (by omega) (by omega), Option.bind_some, Option.bind_some, ite_f (by rfl), ite_f (decide_eq_false h0), ite_f (decide_eq_false h1)]
    simp only [cond_true, Option.isNone_none]
    rw [rHead_is _ (by omega) (by omega), Option.bind_some, beq_self_eq_true]
theorem u8lt (x : UInt8) : x.toNat < 256 := x.toNat_lt
theorem bor8 {i : Int} {x : Nat} (hx : x < 256) (h1 : -9223372036854775808 ≤ i * 256) (h2 : i * 256 + x < 9223372036854775808) : bitI .or .i64 (i * 2 ^ 8) (x : Int) = i * 256 + x := by
 have e : (i * 2 ^ 8 : Int) = i * 256 := by rfl
 rw [e]
 unfold bitI
 show IntKind.i64.wrap (((BitVec.ofInt 64 (i * 256) ||| BitVec.ofInt 64 (x : Int)).toNat : Nat) : Int) = _
 have hX : (BitVec.ofInt 64 (x : Int)).toNat = x := by rw [BitVec.toNat_ofInt]; omega
 have hI : (BitVec.ofInt 64 (i * 256)).toNat = (i % 2 ^ 56).toNat * 256 := by rw [BitVec.toNat_ofInt]; omega
 have ho : (BitVec.ofInt 64 (i * 256) ||| BitVec.ofInt 64 (x : Int)).toNat = (i % 2 ^ 56).toNat * 256 + x := by
  rw [BitVec.toNat_or, hX, hI]
  have := Nat.shiftLeft_add_eq_or_of_lt (i := 8) (show x < 2 ^ 8 from hx) (i % 2 ^ 56).toNat
  rw [Nat.shiftLeft_eq] at this
  exact this.symm
 rw [ho]
 unfold IntKind.wrap
 simp [IntKind.bits, IntKind.signed]
 omega
def hdR (b : List UInt8) (r : Int × Int × Bool) : Prop := r.2.2 = true → 2 ≤ r.1 ∧ 0 ≤ r.2.1 ∧ r.1 + r.2.1 ≤ (b.length : Int)
theorem thead_j1_is (n : Nat) {b : List UInt8} (hb : b.length ≤ 1000000) {i k : Int} (hi : 2 ≤ i) (hi2 : i ≤ (b.length : Int)) (hk : 0 ≤ k) : ∃ r, thead_j1 n b i k = some r ∧ hdR b r := by
 unfold thead_j1
 rw [gd_pos (okI64 (by omega) (by omega))]
 exact ⟨_, rfl, fun h => ⟨hi, hk, by have := of_decide_eq_true h; show i + k ≤ _; omega⟩⟩
theorem thead_l1_is (n : Nat) {b : List UInt8} (hb : b.length ≤ 1000000) (k : Nat) (hk : (((b.getD 1 0).toNat : Nat) : Int) - 128 = (k : Int)) (hk1 : 1 ≤ k) (hk2 : k ≤ 2) (hl : 2 + k ≤ b.length) :
  ∀ (fu j : Nat) (v : Int), k < j + fu → j ≤ k → 0 ≤ v → v < 256 ^ j → ∃ r, thead_l1 n b fu v (j : Int) = some r ∧ hdR b r
 | 0, j, v, h, h1, _, _ => by omega
 | fu + 1, j, v, h, h1, hv, hv2 => by
  rw [thead_l1]
  simp only [hk]
  have e : (((((2 + (k : Int)).toNat) - 2 : Nat)) : Int) = (k : Int) := by omega
  simp only [e]
  by_cases hj : j < k
  ·have hv3 : v ≤ 256 := by
    have : j = 0 ∨ j = 1 := by omega
    rcases this with rfl | rfl
    ·simp at hv2; omega
    ·simp at hv2; omega
   rw [ite_t (decide_eq_true (by omega)), gd_pos (by omega), gd_pos (by omega), gd_pos (by decide), gd_pos (by decide), gd_pos (okI64 (by omega) (by omega)), gd_pos (okI64 (by omega) (by omega)), bor8 (u8lt _) (by omega) (by have := u8lt (((b.drop 2).take ((2 + (k : Int)).toNat - 2)).getD ((j : Int)).toNat 0); omega)]
   have hx := u8lt (((b.drop 2).take ((2 + (k : Int)).toNat - 2)).getD ((j : Int)).toNat 0)
   refine thead_l1_is n hb k hk hk1 hk2 hl fu (j + 1) _ (by omega) (by omega) (by omega) ?_
   rw [Int.pow_succ]; omega
  ·rw [ite_f (decide_eq_false (by omega))]
   cases decide (v < (128 : Int)) with
   | true => exact ⟨_, rfl, fun h => absurd h Bool.false_ne_true⟩
   | false =>
    simp only [cond_false]
    cases ((k : Int) == 2) with
    | false => exact thead_j1_is n hb (by omega) (by omega) hv
    | true =>
     cases decide (v < (256 : Int)) with
     | true => exact ⟨_, rfl, fun h => absurd h Bool.false_ne_true⟩
     | false => exact thead_j1_is n hb (by omega) (by omega) hv
theorem thead_is {n : Nat} (hn : 3 ≤ n) {b : List UInt8} (hb : b.length ≤ 1000000) : ∃ r, thead n b = some r ∧ hdR b r := by
 have no : ∃ r, some ((0, 0, false) : Int × Int × Bool) = some r ∧ hdR b r := ⟨_, rfl, fun h => absurd h Bool.false_ne_true⟩
 unfold thead
 by_cases h2 : (b.length : Int) < 2
 ·rw [ite_t (decide_eq_true h2)]; exact no
 ·rw [ite_f (decide_eq_false h2), gd_pos (by omega), gd_pos (by omega), tvalid_is, Option.bind_some]
  cases (b.getD 0 0 % 32 != 31) with
  | false => exact no
  | true =>
   simp only [Bool.not_true, cond_false]
   have hx := u8lt (b.getD 1 0)
   rw [gd_pos (by omega), gd_pos (by omega)]
   by_cases h8 : (128 : Int) ≤ (((b.getD 1 0).toNat : Nat) : Int)
   ·rw [ite_t (decide_eq_true h8), gd_pos (okI64 (by omega) (by omega))]
    by_cases ha : ((((b.getD 1 0).toNat : Nat) : Int) - 128) < 1
    ·rw [ite_t (decide_eq_true ha)]; exact no
    ·rw [ite_f (decide_eq_false ha)]
     by_cases hc : (2 : Int) < ((((b.getD 1 0).toNat : Nat) : Int) - 128)
     ·rw [ite_t (decide_eq_true hc)]; exact no
     ·rw [ite_f (decide_eq_false hc), gd_pos (okI64 (by omega) (by omega))]
      by_cases hd : ((b.length : Nat) : Int) < (2 + ((((b.getD 1 0).toNat : Nat) : Int) - 128))
      ·rw [ite_t (decide_eq_true hd)]; exact no
      ·rw [ite_f (decide_eq_false hd), gd_pos (okI64 (by omega) (by omega)), gd_pos (by omega), gd_pos (by omega), gd_pos (by omega)]
       exact thead_l1_is n hb ((b.getD 1 0).toNat - 128) (by omega) (by omega) (by omega) (by omega) n 0 0 (by omega) (by omega) (by omega) (by simp)
   ·rw [ite_f (decide_eq_false h8)]
    exact thead_j1_is n hb (by omega) (by omega) (by omega)
theorem tleft_is (n : Nat) (b : List UInt8) (hb : b.length ≤ 1000000) : tleft n b 0 [(b.length : Int)] = some (0, b.length) := by
 unfold tleft
 rw [gd_pos (okI64 (by simp) (by simp)), gd_pos (by simp), gd_pos (by simp), gd_pos (by omega), gd_pos (by simp), gd_pos (by simp)]
 simp
theorem tWhole_is {n : Nat} (hn : 3 ≤ n) (b : List UInt8) (hb : b.length ≤ 1000000) : ∃ r, tWhole n b 0 [(b.length : Int)] = some r ∧ r.2.1.length ≤ b.length := by
 unfold tWhole
 rw [tleft_is n b hb, Option.bind_some]
 simp only []
 cases ((b.length : Int) == 0) with
 | true => exact ⟨_, rfl, Nat.zero_le _⟩
 | false =>
  simp only [cond_false]
  obtain ⟨r, e, hr⟩ := thead_is (n := n) hn (b := (b.drop 0).take b.length) (by simp; omega)
  rw [e, Option.bind_some]
  have hl : ((b.drop 0).take b.length).length = b.length := by simp
  unfold hdR at hr; rw [hl] at hr
  cases h : r.2.2 with
  | false => exact ⟨_, rfl, Nat.zero_le _⟩
  | true =>
   have := hr h
   simp only [Bool.not_true, cond_false]
   rw [gd_pos (okI64 (by omega) (by omega)), gd_pos (okI64 (by omega) (by omega)), gd_pos (okI64 (by omega) (by omega)), gd_pos (by omega), gd_pos (by omega), gd_pos (by simp; omega)]
   exact ⟨_, rfl, by simp; omega⟩
theorem bWh (n : Nat) (l : List UInt8) (h : l.length ≤ 1000000) : wBytes1 n 0 l = some () := by
 unfold wBytes1; rw [gd_pos (by decide), gd_pos (by decide), gd_pos (by decide), gd_pos (by omega)]
theorem s4 (n : Nat) (A : Bool) (w1 w2 : List UInt8) (r : Int × List UInt8 × Option Int) (hA : A = true) (hw : w1 = w2) (hr : r.2.1.length ≤ 1000000) : ∀ (fu j : Nat) (l : List UInt8), r.2.1.length < j + fu → j ≤ r.2.1.length → lStays_l4 n A w1 w2 r r fu l (j : Int) = some true
 | 0, j, l, h, h1 => by omega
 | fu + 1, j, l, h, h1 => by
  rw [lStays_l4]
  by_cases hj : j < r.2.1.length
  ·rw [ite_t (decide_eq_true (by omega)), gd_pos (by omega), gd_pos (by omega), gd_pos (by omega), gd_pos (by omega), gd_pos (okI64 (by omega) (by omega))]
   exact s4 n A w1 w2 r hA hw hr fu (j + 1) _ (by omega) hj
  ·rw [ite_f (decide_eq_false (by omega)), hA, hw]; simp
theorem s3 (n : Nat) (A : Bool) (b : List UInt8) (w1 w2 : List UInt8) (hA : A = true) (hw : w1 = w2) (hb : b.length ≤ 1000) (hn : 1001 < n) (hx : w1.length ≤ 1000) : ∀ (fu j : Nat) (l : List UInt8), w1.length < j + fu → j ≤ w1.length → lStays_l3 n A (b, [(b.length : Int)]) (b, [(b.length : Int)]) w1 w2 fu l (j : Int) = some true
 | 0, j, l, h, h1 => by omega
 | fu + 1, j, l, h, h1 => by
  rw [lStays_l3]
  by_cases hj : j < w1.length
  ·rw [ite_t (decide_eq_true (by omega)), gd_pos (by omega), gd_pos (by omega), gd_pos (by omega), gd_pos (by omega), gd_pos (okI64 (by omega) (by omega))]
   exact s3 n A b w1 w2 hA hw hb hn hx fu (j + 1) _ (by omega) hj
  ·rw [ite_f (decide_eq_false (by omega)), bWh n w1 (by omega), Option.bind_some]
   simp only []
   obtain ⟨r, e, hr⟩ := tWhole_is (n := n) (by omega) b (by omega)
   rw [e, Option.bind_some, Option.bind_some]
   exact s4 n A w1 w2 r hA hw (by omega) n 0 _ (by omega) (by omega)
theorem s2 (n : Nat) (A : Bool) (a b : List UInt8) (w1 : List UInt8) (hA : A = true) (hw : w1 = hdF 4 (a.length : Int) ++ a) (ha : a.length ≤ 300) (hb : b.length ≤ 1000) (hn : 1001 < n) : ∀ (fu j : Nat) (l : List UInt8), b.length < j + fu → j ≤ b.length → lStays_l2 n a b A (b, [(b.length : Int)]) (b, [(b.length : Int)]) w1 fu l (j : Int) = some true
 | 0, j, l, h, h1 => by omega
 | fu + 1, j, l, h, h1 => by
  have hd := hdF_len 4 (a.length : Int)
  rw [lStays_l2]
  simp only [List.nil_append]
  by_cases hj : j < b.length
  ·rw [ite_t (decide_eq_true (by omega)), gd_pos (by omega), gd_pos (by omega), gd_pos (by omega), gd_pos (by omega), gd_pos (okI64 (by omega) (by omega))]
   exact s2 n A a b w1 hA hw ha hb hn fu (j + 1) _ (by omega) hj
  ·have hx : w1.length ≤ 1000 := by rw [hw]; simp; omega
   rw [ite_f (decide_eq_false (by omega)), bWh n w1 (by omega), Option.bind_some, rEl_is n 4 (by omega), Option.bind_some]
   exact s3 n A b w1 _ hA hw hb hn hx n 0 _ (by omega) (by omega)
theorem s1 (n : Nat) (A : Bool) (a b : List UInt8) (w1 : List UInt8) (hA : A = true) (hw : w1 = hdF 4 (a.length : Int) ++ a) (ha : a.length ≤ 300) (hb : b.length ≤ 1000) (hn : 1001 < n) : ∀ (fu j : Nat) (l : List UInt8), a.length < j + fu → j ≤ a.length → lStays_l1 n a b A (b, [(b.length : Int)]) (b, [(b.length : Int)]) w1 fu l (j : Int) = some true
 | 0, j, l, h, h1 => by omega
 | fu + 1, j, l, h, h1 => by
  rw [lStays_l1]
  simp only [List.nil_append]
  by_cases hj : j < a.length
  ·rw [ite_t (decide_eq_true (by omega)), gd_pos (by omega), gd_pos (by omega), gd_pos (by omega), gd_pos (by omega), gd_pos (okI64 (by omega) (by omega))]
   exact s1 n A a b w1 hA hw ha hb hn fu (j + 1) _ (by omega) hj
  ·rw [ite_f (decide_eq_false (by omega))]
   exact s2 n A a b w1 hA hw ha hb hn n 0 _ (by omega) (by omega)
end Go.Sx
end
section
namespace Go.Sx
open Go Go.RowKit Go.Ch Go.Proofs.Ytcdljciflkefaaa
end Go.Sx
namespace Go.Proofs.Ytcdljciflkefaaa
open Go.RowKit Go.Ch Go.Sx
theorem tlvHeads_c (w : World) (n0 : Int) (hn0 : (Lit.int .u8 n0).wf = true) (n1 : Int) (hn1 : (Lit.int .i64 n1).wf = true) :
  Calls Try.prog 3 #[.int .u8 n0, .int .i64 n1] w (Ret fun v' w' => Ext w w' ∧ v' = .bool true) := by
 obtain ⟨x0, rfl⟩ : ∃ x : UInt8, n0 = ((x.toNat : Nat) : Int) := ⟨UInt8.ofNat n0.toNat, by simp [Lit.wf, IntKind.min, IntKind.max, IntKind.signed, IntKind.bits] at hn0; simp; omega⟩
 have r1 : -9223372036854775808 ≤ n1 ∧ n1 < 9223372036854775808 := by simp [Lit.wf, IntKind.min, IntKind.max, IntKind.signed, IntKind.bits] at hn1; omega
 exact law_of (lHeads_ok 1100 true) (args := [.c (.s (.u8 x0)), .c (.s (.k .i64 n1))]) (H := []) (ρ := plL []) (vals := [.int .u8 ((x0.toNat : Nat) : Int), .int .i64 n1]) rfl (allP_cons.2 ⟨(lHeads_is x0 n1), allP_nil⟩) trivial (hpL (ps := []) F2.nil) (F2.cons rfl (F2.cons rfl F2.nil))
end Go.Proofs.Ytcdljciflkefaaa
end
