import Derived.Test.YtiojofjllkhbhaaGreatZ4
import Derived.Test.YtiojofjllkhbhaaGreatProg
set_option linter.unusedVariables false
set_option linter.unusedSimpArgs false
section
namespace Go.Proofs.YtiojofjllkhbhaaGreat
open Go.RowKit Go.Ch Go.Sx
def tabL_nma : List (TypeId × Ti) := [(3, ⟨.int .i64, 1, 8, true, some [.int .i64]⟩),
 (5, ⟨.int .u8, 1, 1, true, some [.int .u8]⟩),
 (9, ⟨.str, 1, 16, true, some [.str]⟩),
 (23, ⟨.sl 78, 1, 24, false, some [.nils]⟩),
 (24, ⟨.sl 63, 1, 24, false, some [.nils]⟩),
 (32, ⟨.sl 5, 1, 24, false, some [.nils]⟩),
 (34, ⟨.ifc, 1, 16, true, some [.ifc]⟩),
 (37, ⟨.int .i64, 1, 8, true, some [.int .i64]⟩),
 (63, ⟨.int .u32, 1, 4, true, some [.int .u32]⟩),
 (78, ⟨.sl 80, 1, 24, false, some [.nils]⟩),
 (80, ⟨.st [(24, 0), (5, 1), (32, 2)], 3, 56, false, some [.nils, .int .u8, .nils]⟩)]
def tab_nma : Tab := fun t => (tabL_nma).lookup t
theorem tabE_nma : (tabL_nma.map fun p => tiOf Tryz.prog p.1) = tabL_nma.map fun p => some p.2 := by kernel_rfl
theorem tabO_nma : TabOk Tryz.prog tab_nma := tab_of tabE_nma
def nAttr (n : Nat) (a0_0 : List UInt32) (a0_1 : UInt8) (a0_2 : List UInt8) : Option (List UInt8 × Option Int) :=
 (pOid n a0_0).bind fun r10 =>
 bif (!((r10.2).isNone)) then
  some ([], (some 1))
 else
  bif (a0_1 != 12) then
   bif (a0_1 != 19) then
    some ([], (some 1))
   else
    bif (decide (((a0_2.length : Nat) : Int) < (1 : Int))) then
     some ([], (some 1))
    else
     bif (decide ((64 : Int) < ((a0_2.length : Nat) : Int))) then
      some ([], (some 1))
     else
      (pText n a0_1 a0_2).bind fun r42 =>
      bif (!((r42).isNone)) then
       some ([], (some 1))
      else
       (wNew n).bind fun r46 =>
       (wOpen1 n 0 [] 48).bind fun r48 =>
       (wPut2 n 0 [] 48 [] 6 r10.1).bind fun r51 =>
       (wPut2 n 0 [] 48 r51 a0_1 a0_2).bind fun r57 =>
       (wClose2 n 0 [] 48 r57).bind fun r59 =>
       (wBytes1 n 0 r59).bind fun r61 =>
       some (r59, none)
  else
   bif (decide (((a0_2.length : Nat) : Int) < (1 : Int))) then
    some ([], (some 1))
   else
    bif (decide ((64 : Int) < ((a0_2.length : Nat) : Int))) then
     some ([], (some 1))
    else
     (pText n a0_1 a0_2).bind fun r42 =>
     bif (!((r42).isNone)) then
      some ([], (some 1))
     else
      (wNew n).bind fun r46 =>
      (wOpen1 n 0 [] 48).bind fun r48 =>
      (wPut2 n 0 [] 48 [] 6 r10.1).bind fun r51 =>
      (wPut2 n 0 [] 48 r51 a0_1 a0_2).bind fun r57 =>
      (wClose2 n 0 [] 48 r57).bind fun r59 =>
      (wBytes1 n 0 r59).bind fun r61 =>
      some (r59, none)
def nWrite_l2 (n : Nat) (a0 : List (List (List UInt32 × (UInt8 × List UInt8)))) (l4_1 : List UInt8) (i23_1 : Int) (k_l1 : (List UInt8) → Int → Option (List UInt8 × Option Int)) : Nat → List UInt8 → List UInt8 → Int → Option (List UInt8 × Option Int)
 | 0, _, _, _ => none
 | fu_l2 + 1, l7_5, l8_5, i38_5 =>
  bif (decide (i38_5 < (((a0.getD i23_1.toNat []).length : Nat) : Int))) then
   gd (0 ≤ i38_5) <|
   gd (i38_5 < (((a0.getD i23_1.toNat []).length : Nat) : Int)) <|
   (nAttr n (((a0.getD i23_1.toNat []).getD i38_5.toNat ([], (0, []))).1) (((a0.getD i23_1.toNat []).getD i38_5.toNat ([], (0, []))).2.1) (((a0.getD i23_1.toNat []).getD i38_5.toNat ([], (0, []))).2.2)).bind fun r45_8 =>
   bif (!((r45_8.2).isNone)) then
    some ([], (some 1))
   else
    bif (decide ((0 : Int) < i38_5)) then
     bif (decide ((0 : Int) ≤ (Lib.compareBytes l8_5 r45_8.1))) then
      some ([], (some 1))
     else
      gd (rmB (l7_5.length + r45_8.1.length) 1) <|
      gd (okI .i64 (i38_5 + 1)) <|
      (nWrite_l2 n a0 l4_1 i23_1 k_l1 fu_l2) (l7_5 ++ r45_8.1) r45_8.1 (i38_5 + 1)
    else
     gd (rmB (l7_5.length + r45_8.1.length) 1) <|
     gd (okI .i64 (i38_5 + 1)) <|
     (nWrite_l2 n a0 l4_1 i23_1 k_l1 fu_l2) (l7_5 ++ r45_8.1) r45_8.1 (i38_5 + 1)
  else
   (tHead n 49 ((l7_5.length : Nat) : Int)).bind fun r69_5 =>
   bif (!((r69_5.2).isNone)) then
    some ([], (some 1))
   else
    gd (rmB (l4_1.length + r69_5.1.length) 1) <|
    gd (rmB (((l4_1 ++ r69_5.1).length) + l7_5.length) 1) <|
    gd (okI .i64 (i23_1 + 1)) <|
    k_l1 ((l4_1 ++ r69_5.1) ++ l7_5) (i23_1 + 1)
def nWrite_l1 (n : Nat) (a0 : List (List (List UInt32 × (UInt8 × List UInt8)))) : Nat → List UInt8 → Int → Option (List UInt8 × Option Int)
 | 0, _, _ => none
 | fu_l1 + 1, l4_1, i23_1 =>
  bif (decide (i23_1 < ((a0.length : Nat) : Int))) then
   gd (0 ≤ i23_1) <|
   gd (i23_1 < ((a0.length : Nat) : Int)) <|
   bif (decide ((((a0.getD i23_1.toNat []).length : Nat) : Int) < (1 : Int))) then
    some ([], (some 1))
   else
    bif (decide ((4 : Int) < (((a0.getD i23_1.toNat []).length : Nat) : Int))) then
     some ([], (some 1))
    else
     nWrite_l2 n a0 l4_1 i23_1 (nWrite_l1 n a0 fu_l1) n [] [] 0
  else
   (tHead n 48 ((l4_1.length : Nat) : Int)).bind fun r84_1 =>
   bif (!((r84_1.2).isNone)) then
    some ([], (some 1))
   else
    gd (rmB (r84_1.1.length + l4_1.length) 1) <|
    some ((r84_1.1 ++ l4_1), none)
def nWrite (n : Nat) (a0 : List (List (List UInt32 × (UInt8 × List UInt8)))) : Option (List UInt8 × Option Int) :=
 bif (decide ((8 : Int) < ((a0.length : Nat) : Int))) then
 some ([], (some 1))
 else
 nWrite_l1 n a0 n [] 0
def rHead (n : Nat) (a0 : UInt8) (a1 : Int) : Option (List UInt8) :=
 bif (decide (a1 < (128 : Int))) then
 some [a0, (UInt8.ofInt a1)]
 else
 bif (decide (a1 < (256 : Int))) then
 some [a0, 129, (UInt8.ofInt a1)]
 else
 gd ((256 : Int) ≠ 0) <|
 gd (okI .i64 (Int.tdiv a1 256)) <|
 gd ((256 : Int) ≠ 0) <|
 some [a0, 130, (UInt8.ofInt (Int.tdiv a1 256)), (UInt8.ofInt (Int.tmod a1 256))]
def rEl (n : Nat) (a0 : UInt8) (a1 : List UInt8) : Option (List UInt8) :=
 (rHead n a0 ((a1.length : Nat) : Int)).bind fun r8 =>
 gd (rmB (r8.length + a1.length) 1) <|
 some (r8 ++ a1)
def rAttr (n : Nat) (a0_0 : List UInt32) (a0_1 : UInt8) (a0_2 : List UInt8) : Option (List UInt8 × Bool) :=
 bif (a0_1 != 12) then
  bif (a0_1 != 19) then
   some ([], false)
  else
   bif (decide (((a0_2.length : Nat) : Int) < (1 : Int))) then
    some ([], false)
   else
    bif (decide ((64 : Int) < ((a0_2.length : Nat) : Int))) then
     some ([], false)
    else
     (rOid n a0_0).bind fun r27 =>
     bif (!r27) then
      some ([], false)
     else
      (rText n a0_1 a0_2).bind fun r34 =>
      bif (!r34) then
       some ([], false)
      else
       (rOidBody n a0_0).bind fun r39 =>
       (rEl n 6 r39).bind fun r40 =>
       (rEl n a0_1 a0_2).bind fun r45 =>
       gd (rmB (r40.length + r45.length) 1) <|
       (rEl n 48 (r40 ++ r45)).bind fun r48 =>
       some (r48, true)
 else
  bif (decide (((a0_2.length : Nat) : Int) < (1 : Int))) then
   some ([], false)
  else
   bif (decide ((64 : Int) < ((a0_2.length : Nat) : Int))) then
    some ([], false)
   else
    (rOid n a0_0).bind fun r27 =>
    bif (!r27) then
     some ([], false)
    else
     (rText n a0_1 a0_2).bind fun r34 =>
     bif (!r34) then
      some ([], false)
     else
      (rOidBody n a0_0).bind fun r39 =>
      (rEl n 6 r39).bind fun r40 =>
      (rEl n a0_1 a0_2).bind fun r45 =>
      gd (rmB (r40.length + r45.length) 1) <|
      (rEl n 48 (r40 ++ r45)).bind fun r48 =>
      some (r48, true)
def r9Write_l2 (n : Nat) (a0 : List (List (List UInt32 × (UInt8 × List UInt8)))) (l4_1 : List UInt8) (i5_1 : Int) (k_l1 : (List UInt8) → Int → Option (List UInt8 × Bool)) : Nat → List UInt8 → List UInt8 → Int → Option (List UInt8 × Bool)
 | 0, _, _, _ => none
 | fu_l2 + 1, l6_5, l7_5, i8_5 =>
  gd (0 ≤ i5_1) <|
  gd (i5_1 < ((a0.length : Nat) : Int)) <|
  bif (decide (i8_5 < (((a0.getD i5_1.toNat []).length : Nat) : Int))) then
   gd (0 ≤ i5_1) <|
   gd (i5_1 < ((a0.length : Nat) : Int)) <|
   gd (0 ≤ i8_5) <|
   gd (i8_5 < (((a0.getD i5_1.toNat []).length : Nat) : Int)) <|
   (rAttr n (((a0.getD i5_1.toNat []).getD i8_5.toNat ([], (0, []))).1) (((a0.getD i5_1.toNat []).getD i8_5.toNat ([], (0, []))).2.1) (((a0.getD i5_1.toNat []).getD i8_5.toNat ([], (0, []))).2.2)).bind fun r51_8 =>
   bif (!r51_8.2) then
    some ([], false)
   else
    bif (decide ((0 : Int) < i8_5)) then
     bif (!Op.bytesLess l7_5 r51_8.1) then
      some ([], false)
     else
      gd (rmB (l6_5.length + r51_8.1.length) 1) <|
      gd (okI .i64 (i8_5 + 1)) <|
      (r9Write_l2 n a0 l4_1 i5_1 k_l1 fu_l2) (l6_5 ++ r51_8.1) r51_8.1 (i8_5 + 1)
    else
     gd (rmB (l6_5.length + r51_8.1.length) 1) <|
     gd (okI .i64 (i8_5 + 1)) <|
     (r9Write_l2 n a0 l4_1 i5_1 k_l1 fu_l2) (l6_5 ++ r51_8.1) r51_8.1 (i8_5 + 1)
  else
   (rEl n 49 l6_5).bind fun r73_5 =>
   gd (rmB (l4_1.length + r73_5.length) 1) <|
   gd (okI .i64 (i5_1 + 1)) <|
   k_l1 (l4_1 ++ r73_5) (i5_1 + 1)
def r9Write_l1 (n : Nat) (a0 : List (List (List UInt32 × (UInt8 × List UInt8)))) : Nat → List UInt8 → Int → Option (List UInt8 × Bool)
 | 0, _, _ => none
 | fu_l1 + 1, l4_1, i5_1 =>
  bif (decide (i5_1 < ((a0.length : Nat) : Int))) then
   gd (0 ≤ i5_1) <|
   gd (i5_1 < ((a0.length : Nat) : Int)) <|
   bif (decide ((((a0.getD i5_1.toNat []).length : Nat) : Int) < (1 : Int))) then
    some ([], false)
   else
    gd (0 ≤ i5_1) <|
    gd (i5_1 < ((a0.length : Nat) : Int)) <|
    bif (decide ((4 : Int) < (((a0.getD i5_1.toNat []).length : Nat) : Int))) then
     some ([], false)
    else
     r9Write_l2 n a0 l4_1 i5_1 (r9Write_l1 n a0 fu_l1) n [] ([] : List UInt8) 0
  else
   (rEl n 48 l4_1).bind fun r76_1 =>
   some (r76_1, true)
def r9Write (n : Nat) (a0 : List (List (List UInt32 × (UInt8 × List UInt8)))) : Option (List UInt8 × Bool) :=
 bif (decide ((8 : Int) < ((a0.length : Nat) : Int))) then
 some ([], false)
 else
 r9Write_l1 n a0 n [] 0
def nAttr_R (r : List UInt8 × Option Int) : S := ⟨[(2, kH 0), (3, kE 37 r.2)], [], [nb 5 r.1]⟩
def nAttr_ct (n : Nat) (r : List UInt8 × Option Int) : Ct := ctc (rSt (lC (cW 63) (lC cU8 (lC (cB 5) lN)))).rd fun _ y0 => ct0 fun H => ([nAttr n y0.1 y0.2.1 y0.2.2.1 = some r], shA H.length (.t [.c (.wh 0), .c (.s (.er 37 .i64 r.2))]), shH H.length [nb 5 r.1])
theorem nAttr_ok (n : Nat) (r : List UInt8 × Option Int) : FnOk Tryz.prog Tr 35 (nAttr_ct n r) := by
 refine fnok Tryz.func35 ?_
 refine HO_c (rSt (lC (cW 63) (lC cU8 (lC (cB 5) lN)))) fun p0 _ => ?_
 obtain ⟨l0_0, l0_1, l0_2, _⟩ := p0
 refine HO_0 tabO_nma (nAttr_R r) [.tmp 2, .tmp 3] [0] 64 Tryz.func35 fun w hG h => ?_
 have h : nAttr n l0_0 l0_1 l0_2 = some r := h
 unfold nAttr at h
 have hT := tabO_nma
 refine Vrs hT [2, 0, 1] ⟨[(1, kP 0 0)], [], [⟨.blk, 80, 1, 3, .c [.wh 1, .s (.u8 l0_1), .wh 2]⟩, ow 63 l0_0, ob 5 l0_2]⟩ ?_
 obtain ⟨r10, g1, h⟩ := bind_some' h
 refine Vgs hT (fT 2 (pOid_ok n r10) fN) [] [] [0, 1, 2, 3] ⟨[(1, kP 0 0), (4, kH 3), (5, kE 37 r10.2)], [], [⟨.blk, 80, 1, 3, .c [.wh 1, .s (.u8 l0_1), .wh 2]⟩, ow 63 l0_0, ob 5 l0_2, nb 5 r10.1]⟩ (aP g1 aN) ?_
 refine W_seq ?_
 refine W_seq ?_
 rcases Bool.eq_false_or_eq_true (!((r10.2).isNone)) with g2 | g2
 ·replace h := bif_t h g2
  refine Vg hT fN [(2, true)] [] [0, 1, 2, 3] ⟨[(1, kP 0 0), (4, kH 3), (44, kB true)], [], [⟨.blk, 80, 1, 3, .c [.wh 1, .s (.u8 l0_1), .wh 2]⟩, ow 63 l0_0, ob 5 l0_2, nb 5 r10.1]⟩ (aP g2 aN) ?_
  refine Vi (true) (fun _ => ?_) (fun hb => by cases hb)
  refine Vrs hT [] ⟨[(2, .c (.nils)), (3, kE 37 (some 1))], [], []⟩ ?_
  refine Vc [.nil 2 5 1 (.b [])] [0] (nAttr_R ([], (some 1))) (W_ret ?_)
  exact ⟨.inl rfl, by cases h; rfl⟩
 ·replace h := bif_f h g2
  rcases Bool.eq_false_or_eq_true (l0_1 != 12) with g3 | g3
  ·replace h := bif_t h g3
   rcases Bool.eq_false_or_eq_true (l0_1 != 19) with g4 | g4
   ·replace h := bif_t h g4
    refine Vg hT fN [(2, false), (6, true), (12, true)] [] [0, 1, 2, 3] ⟨[(1, kP 0 0), (4, kH 3), (44, kB true)], [], [⟨.blk, 80, 1, 3, .c [.wh 1, .s (.u8 l0_1), .wh 2]⟩, ow 63 l0_0, ob 5 l0_2, nb 5 r10.1]⟩ (aP g2 (aP g3 (aP g4 aN))) ?_
    refine Vi (true) (fun _ => ?_) (fun hb => by cases hb)
    refine Vrs hT [] ⟨[(2, .c (.nils)), (3, kE 37 (some 1))], [], []⟩ ?_
    refine Vc [.nil 2 5 1 (.b [])] [0] (nAttr_R ([], (some 1))) (W_ret ?_)
    exact ⟨.inl rfl, by cases h; rfl⟩
   ·replace h := bif_f h g4
    rcases Bool.eq_false_or_eq_true (decide (((l0_2.length : Nat) : Int) < (1 : Int))) with g5 | g5
    ·replace h := bif_t h g5
     refine Vg hT fN [(2, false), (6, true), (12, false), (18, true)] [] [0, 1, 2, 3] ⟨[(1, kP 0 0), (4, kH 3), (44, kB true)], [], [⟨.blk, 80, 1, 3, .c [.wh 1, .s (.u8 l0_1), .wh 2]⟩, ow 63 l0_0, ob 5 l0_2, nb 5 r10.1]⟩ (aP g2 (aP g3 (aP g4 (aP g5 aN)))) ?_
     refine Vi (true) (fun _ => ?_) (fun hb => by cases hb)
     refine Vrs hT [] ⟨[(2, .c (.nils)), (3, kE 37 (some 1))], [], []⟩ ?_
     refine Vc [.nil 2 5 1 (.b [])] [0] (nAttr_R ([], (some 1))) (W_ret ?_)
     exact ⟨.inl rfl, by cases h; rfl⟩
    ·replace h := bif_f h g5
     rcases Bool.eq_false_or_eq_true (decide ((64 : Int) < ((l0_2.length : Nat) : Int))) with g6 | g6
     ·replace h := bif_t h g6
      refine Vg hT fN [(2, false), (6, true), (12, false), (18, false), (24, true)] [] [0, 1, 2, 3] ⟨[(1, kP 0 0), (4, kH 3), (44, kB true)], [], [⟨.blk, 80, 1, 3, .c [.wh 1, .s (.u8 l0_1), .wh 2]⟩, ow 63 l0_0, ob 5 l0_2, nb 5 r10.1]⟩ (aP g2 (aP g3 (aP g4 (aP g5 (aP g6 aN))))) ?_
      refine Vi (true) (fun _ => ?_) (fun hb => by cases hb)
      refine Vrs hT [] ⟨[(2, .c (.nils)), (3, kE 37 (some 1))], [], []⟩ ?_
      refine Vc [.nil 2 5 1 (.b [])] [0] (nAttr_R ([], (some 1))) (W_ret ?_)
      exact ⟨.inl rfl, by cases h; rfl⟩
     ·replace h := bif_f h g6
      obtain ⟨r42, g7, h⟩ := bind_some' h
      refine Vg hT (fT 29 (pText_ok n r42) fN) [(2, false), (6, true), (12, false), (18, false), (24, false)] [] [0, 1, 2, 3] ⟨[(1, kP 0 0), (4, kH 3), (44, kB (!((r42).isNone)))], [], [⟨.blk, 80, 1, 3, .c [.wh 1, .s (.u8 l0_1), .wh 2]⟩, ow 63 l0_0, ob 5 l0_2, nb 5 r10.1]⟩ (aP g2 (aP g3 (aP g4 (aP g5 (aP g6 (aP g7 aN)))))) ?_
      refine Vi ((!((r42).isNone))) (fun g14 => ?_) (fun g14 => ?_)
      ·replace h := bif_t h g14
       refine Vrs hT [] ⟨[(2, .c (.nils)), (3, kE 37 (some 1))], [], []⟩ ?_
       refine Vc [.nil 2 5 1 (.b [])] [0] (nAttr_R ([], (some 1))) (W_ret ?_)
       exact ⟨.inl rfl, by cases h; rfl⟩
      ·replace h := bif_f h g14
       refine W_skip ?_
       obtain ⟨r46, g8, h⟩ := bind_some' h
       refine Vgs hT (fT 0 (wNew_ok n r46) fN) [] [] [0, 1, 2, 3, 4, 5, 6] ⟨[(1, kP 0 0), (4, kH 3), (6, kP 4 0)], [], [⟨.blk, 80, 1, 3, .c [.wh 1, .s (.u8 l0_1), .wh 2]⟩, ow 63 l0_0, ob 5 l0_2, nb 5 r10.1, ⟨.blk, 142, 1, 2, .c [.wh 5, .s (.v .nilIface)]⟩, ⟨.row, 145, 2, 1, .c [.s (.u8 0), .wh 6]⟩, ⟨.row, 5, 1, 0, .b []⟩]⟩ (aP g8 aN) ?_
       obtain ⟨r48, g9, h⟩ := bind_some' h
       refine Vgs hT (fM 1 (wOpen1_ok n r48) fN) [] [] [0, 1, 2, 3, 4, 7, 8, 9] ⟨[(1, kP 0 0), (4, kH 3), (6, kP 4 0)], [], [⟨.blk, 80, 1, 3, .c [.wh 1, .s (.u8 l0_1), .wh 2]⟩, ow 63 l0_0, ob 5 l0_2, nb 5 r10.1, ⟨.blk, 142, 1, 2, .c [.wh 5, .s (.er 37 .i64 none)]⟩, ⟨.row, 145, 2, 2, .c [.s (.u8 0), .wh 6, .s (.u8 48), .wh 7]⟩, nb 5 [], ⟨.row, 5, 1, 0, .b []⟩]⟩ (aP g9 aN) ?_
       obtain ⟨r51, g10, h⟩ := bind_some' h
       refine Vgs hT (fM 2 (wPut2_ok n r51) fN) [] [] [0, 1, 2, 4, 8, 9, 10] ⟨[(1, kP 0 0), (6, kP 3 0)], [], [⟨.blk, 80, 1, 3, .c [.wh 1, .s (.u8 l0_1), .wh 2]⟩, ow 63 l0_0, ob 5 l0_2, ⟨.blk, 142, 1, 2, .c [.wh 4, .s (.er 37 .i64 none)]⟩, ⟨.row, 145, 2, 2, .c [.s (.u8 0), .wh 5, .s (.u8 48), .wh 6]⟩, nb 5 [], nb 5 r51]⟩ (aP g10 aN) ?_
       obtain ⟨r57, g11, h⟩ := bind_some' h
       refine Vgs hT (fM 5 (wPut2_ok n r57) fN) [] [] [3, 7, 8, 9] ⟨[(6, kP 0 0)], [], [⟨.blk, 142, 1, 2, .c [.wh 1, .s (.er 37 .i64 none)]⟩, ⟨.row, 145, 2, 2, .c [.s (.u8 0), .wh 2, .s (.u8 48), .wh 3]⟩, nb 5 [], nb 5 r57]⟩ (aP g11 aN) ?_
       obtain ⟨r59, g12, h⟩ := bind_some' h
       refine Vgs hT (fM 1 (wClose2_ok n r59) fN) [] [] [0, 4, 5] ⟨[(6, kP 0 0)], [], [⟨.blk, 142, 1, 2, .c [.wh 1, .s (.er 37 .i64 none)]⟩, ⟨.row, 145, 2, 1, .c [.s (.u8 0), .wh 2]⟩, nb 5 r59]⟩ (aP g12 aN) ?_
       obtain ⟨r61, g13, h⟩ := bind_some' h
       refine Vgs hT (fM 1 (wBytes1_ok n r61) fN) [] [] [5] ⟨[(2, kH 0), (3, kE 37 none)], [], [nb 5 r59]⟩ (aP g13 aN) ?_
       refine Vc [] [0] (nAttr_R (r59, none)) (W_ret ?_)
       exact ⟨.inl rfl, by cases h; rfl⟩
  ·replace h := bif_f h g3
   rcases Bool.eq_false_or_eq_true (decide (((l0_2.length : Nat) : Int) < (1 : Int))) with g15 | g15
   ·replace h := bif_t h g15
    refine Vg hT fN [(2, false), (6, false), (18, true)] [] [0, 1, 2, 3] ⟨[(1, kP 0 0), (4, kH 3), (44, kB true)], [], [⟨.blk, 80, 1, 3, .c [.wh 1, .s (.u8 l0_1), .wh 2]⟩, ow 63 l0_0, ob 5 l0_2, nb 5 r10.1]⟩ (aP g2 (aP g3 (aP g15 aN))) ?_
    refine Vi (true) (fun _ => ?_) (fun hb => by cases hb)
    refine Vrs hT [] ⟨[(2, .c (.nils)), (3, kE 37 (some 1))], [], []⟩ ?_
    refine Vc [.nil 2 5 1 (.b [])] [0] (nAttr_R ([], (some 1))) (W_ret ?_)
    exact ⟨.inl rfl, by cases h; rfl⟩
   ·replace h := bif_f h g15
    rcases Bool.eq_false_or_eq_true (decide ((64 : Int) < ((l0_2.length : Nat) : Int))) with g16 | g16
    ·replace h := bif_t h g16
     refine Vg hT fN [(2, false), (6, false), (18, false), (24, true)] [] [0, 1, 2, 3] ⟨[(1, kP 0 0), (4, kH 3), (44, kB true)], [], [⟨.blk, 80, 1, 3, .c [.wh 1, .s (.u8 l0_1), .wh 2]⟩, ow 63 l0_0, ob 5 l0_2, nb 5 r10.1]⟩ (aP g2 (aP g3 (aP g15 (aP g16 aN)))) ?_
     refine Vi (true) (fun _ => ?_) (fun hb => by cases hb)
     refine Vrs hT [] ⟨[(2, .c (.nils)), (3, kE 37 (some 1))], [], []⟩ ?_
     refine Vc [.nil 2 5 1 (.b [])] [0] (nAttr_R ([], (some 1))) (W_ret ?_)
     exact ⟨.inl rfl, by cases h; rfl⟩
    ·replace h := bif_f h g16
     obtain ⟨r42, g17, h⟩ := bind_some' h
     refine Vg hT (fT 29 (pText_ok n r42) fN) [(2, false), (6, false), (18, false), (24, false)] [] [0, 1, 2, 3] ⟨[(1, kP 0 0), (4, kH 3), (44, kB (!((r42).isNone)))], [], [⟨.blk, 80, 1, 3, .c [.wh 1, .s (.u8 l0_1), .wh 2]⟩, ow 63 l0_0, ob 5 l0_2, nb 5 r10.1]⟩ (aP g2 (aP g3 (aP g15 (aP g16 (aP g17 aN))))) ?_
     refine Vi ((!((r42).isNone))) (fun g24 => ?_) (fun g24 => ?_)
     ·replace h := bif_t h g24
      refine Vrs hT [] ⟨[(2, .c (.nils)), (3, kE 37 (some 1))], [], []⟩ ?_
      refine Vc [.nil 2 5 1 (.b [])] [0] (nAttr_R ([], (some 1))) (W_ret ?_)
      exact ⟨.inl rfl, by cases h; rfl⟩
     ·replace h := bif_f h g24
      refine W_skip ?_
      obtain ⟨r46, g18, h⟩ := bind_some' h
      refine Vgs hT (fT 0 (wNew_ok n r46) fN) [] [] [0, 1, 2, 3, 4, 5, 6] ⟨[(1, kP 0 0), (4, kH 3), (6, kP 4 0)], [], [⟨.blk, 80, 1, 3, .c [.wh 1, .s (.u8 l0_1), .wh 2]⟩, ow 63 l0_0, ob 5 l0_2, nb 5 r10.1, ⟨.blk, 142, 1, 2, .c [.wh 5, .s (.v .nilIface)]⟩, ⟨.row, 145, 2, 1, .c [.s (.u8 0), .wh 6]⟩, ⟨.row, 5, 1, 0, .b []⟩]⟩ (aP g18 aN) ?_
      obtain ⟨r48, g19, h⟩ := bind_some' h
      refine Vgs hT (fM 1 (wOpen1_ok n r48) fN) [] [] [0, 1, 2, 3, 4, 7, 8, 9] ⟨[(1, kP 0 0), (4, kH 3), (6, kP 4 0)], [], [⟨.blk, 80, 1, 3, .c [.wh 1, .s (.u8 l0_1), .wh 2]⟩, ow 63 l0_0, ob 5 l0_2, nb 5 r10.1, ⟨.blk, 142, 1, 2, .c [.wh 5, .s (.er 37 .i64 none)]⟩, ⟨.row, 145, 2, 2, .c [.s (.u8 0), .wh 6, .s (.u8 48), .wh 7]⟩, nb 5 [], ⟨.row, 5, 1, 0, .b []⟩]⟩ (aP g19 aN) ?_
      obtain ⟨r51, g20, h⟩ := bind_some' h
      refine Vgs hT (fM 2 (wPut2_ok n r51) fN) [] [] [0, 1, 2, 4, 8, 9, 10] ⟨[(1, kP 0 0), (6, kP 3 0)], [], [⟨.blk, 80, 1, 3, .c [.wh 1, .s (.u8 l0_1), .wh 2]⟩, ow 63 l0_0, ob 5 l0_2, ⟨.blk, 142, 1, 2, .c [.wh 4, .s (.er 37 .i64 none)]⟩, ⟨.row, 145, 2, 2, .c [.s (.u8 0), .wh 5, .s (.u8 48), .wh 6]⟩, nb 5 [], nb 5 r51]⟩ (aP g20 aN) ?_
      obtain ⟨r57, g21, h⟩ := bind_some' h
      refine Vgs hT (fM 5 (wPut2_ok n r57) fN) [] [] [3, 7, 8, 9] ⟨[(6, kP 0 0)], [], [⟨.blk, 142, 1, 2, .c [.wh 1, .s (.er 37 .i64 none)]⟩, ⟨.row, 145, 2, 2, .c [.s (.u8 0), .wh 2, .s (.u8 48), .wh 3]⟩, nb 5 [], nb 5 r57]⟩ (aP g21 aN) ?_
      obtain ⟨r59, g22, h⟩ := bind_some' h
      refine Vgs hT (fM 1 (wClose2_ok n r59) fN) [] [] [0, 4, 5] ⟨[(6, kP 0 0)], [], [⟨.blk, 142, 1, 2, .c [.wh 1, .s (.er 37 .i64 none)]⟩, ⟨.row, 145, 2, 1, .c [.s (.u8 0), .wh 2]⟩, nb 5 r59]⟩ (aP g22 aN) ?_
      obtain ⟨r61, g23, h⟩ := bind_some' h
      refine Vgs hT (fM 1 (wBytes1_ok n r61) fN) [] [] [5] ⟨[(2, kH 0), (3, kE 37 none)], [], [nb 5 r59]⟩ (aP g23 aN) ?_
      refine Vc [] [0] (nAttr_R (r59, none)) (W_ret ?_)
      exact ⟨.inl rfl, by cases h; rfl⟩
def nWrite_l2_E (a0 : List (List (List UInt32 × (UInt8 × List UInt8)))) (l4_1 : List UInt8) (i23_1 : Int) (l7_5 : List UInt8) (l8_5 : List UInt8) (i38_5 : Int) : S := ⟨[(4, kH 0), (7, kH 1), (8, kH 2), (21, kH 3), (22, kI ((a0.length : Nat) : Int)), (23, kI i23_1), (36, .c (.dv 3 [(i23_1.toNat, 0)])), (37, kI (((a0.getD i23_1.toNat []).length : Nat) : Int)), (38, kI i38_5)], [], [nb 5 l4_1, nb 5 l7_5, nb 5 l8_5, ⟨(.dp false), 78, 1, a0.length, .d (.sl 80 (.pr (.wo 63) (.pr .u8 (.by 5)))) a0⟩]⟩
abbrev nWrite_l2_P (n : Nat) (a0 : List (List (List UInt32 × (UInt8 × List UInt8)))) (l4_1 : List UInt8) (i23_1 : Int) (k_l1 : (List UInt8) → Int → Option (List UInt8 × Option Int)) (r : List UInt8 × Option Int) (fu : Nat) : S → Prop := fun s => ∃ (l7_5 : List UInt8), ∃ (l8_5 : List UInt8), ∃ (i38_5 : Int), s = nWrite_l2_E a0 l4_1 i23_1 l7_5 l8_5 i38_5 ∧ nWrite_l2 n a0 l4_1 i23_1 k_l1 fu l7_5 l8_5 i38_5 = some r
def nWrite_l1_E (a0 : List (List (List UInt32 × (UInt8 × List UInt8)))) (l4_1 : List UInt8) (i23_1 : Int) : S := ⟨[(4, kH 0), (21, kH 1), (22, kI ((a0.length : Nat) : Int)), (23, kI i23_1)], [], [nb 5 l4_1, ⟨(.dp false), 78, 1, a0.length, .d (.sl 80 (.pr (.wo 63) (.pr .u8 (.by 5)))) a0⟩]⟩
abbrev nWrite_l1_P (n : Nat) (a0 : List (List (List UInt32 × (UInt8 × List UInt8)))) (r : List UInt8 × Option Int) (fu : Nat) : S → Prop := fun s => ∃ (l4_1 : List UInt8), ∃ (i23_1 : Int), s = nWrite_l1_E a0 l4_1 i23_1 ∧ nWrite_l1 n a0 fu l4_1 i23_1 = some r
def nWrite_R (r : List UInt8 × Option Int) : S := ⟨[(2, kH 0), (3, kE 37 r.2)], [], [nb 5 r.1]⟩
def nWrite_ct (n : Nat) (r : List UInt8 × Option Int) : Ct := ctc (rD 78 (.sl 80 (.pr (.wo 63) (.pr .u8 (.by 5))))).rd fun _ l0 => ct0 fun H => ([nWrite n l0 = some r], shA H.length (.t [.c (.wh 0), .c (.s (.er 37 .i64 r.2))]), shH H.length [nb 5 r.1])
theorem nWrite_ok (n : Nat) (r : List UInt8 × Option Int) : FnOk Tryz.prog Tr 12 (nWrite_ct n r) := by
 refine fnok Tryz.func12 ?_
 refine HO_c (rD 78 (.sl 80 (.pr (.wo 63) (.pr .u8 (.by 5))))) fun (l0 : List (List (List UInt32 × (UInt8 × List UInt8)))) _ => HO_0 tabO_nma (nWrite_R r) [.tmp 2, .tmp 3] [0] 93 Tryz.func12 fun w hG h => ?_
 unfold nWrite at h
 have hT := tabO_nma
 refine Vrs hT [0] ⟨[(0, kH 0)], [], [⟨(.dp false), 78, 1, l0.length, .d (.sl 80 (.pr (.wo 63) (.pr .u8 (.by 5)))) l0⟩]⟩ ?_
 refine W_seq ?_
 refine Vrs hT [0] ⟨[(0, kH 0), (19, kB (decide ((8 : Int) < ((l0.length : Nat) : Int))))], [], [⟨(.dp false), 78, 1, l0.length, .d (.sl 80 (.pr (.wo 63) (.pr .u8 (.by 5)))) l0⟩]⟩ ?_
 refine Vi ((decide ((8 : Int) < ((l0.length : Nat) : Int)))) (fun g25 => ?_) (fun g25 => ?_)
 ·replace h := bif_t h g25
  refine Vrs hT [] ⟨[(2, .c (.nils)), (3, kE 37 (some 1))], [], []⟩ ?_
  refine Vc [.nil 2 5 1 (.b [])] [0] (nWrite_R ([], (some 1))) (W_ret ?_)
  exact ⟨.inl rfl, by cases h; rfl⟩
 ·replace h := bif_f h g25
  refine W_skip ?_
  refine Vrs hT [0] ⟨[(0, kH 0), (4, .c (.nils))], [], [⟨(.dp false), 78, 1, l0.length, .d (.sl 80 (.pr (.wo 63) (.pr .u8 (.by 5)))) l0⟩]⟩ ?_
  refine W_seq ?_
  refine Vrs hT [0] ⟨[(4, .c (.nils)), (21, kH 0), (22, kI ((l0.length : Nat) : Int)), (23, kI 0)], [], [⟨(.dp false), 78, 1, l0.length, .d (.sl 80 (.pr (.wo 63) (.pr .u8 (.by 5)))) l0⟩]⟩ ?_
  refine W_block ?_
  refine Vc [.nil 4 5 1 (.b [])] [1, 0] (nWrite_l1_E l0 [] 0) (W_lp ((nWrite_l1_P n l0 r)) n ⟨_, _, rfl, h⟩ ?_)
  rintro fu_l1 _ ⟨l4_1, i23_1, rfl, h⟩
  cases fu_l1 with
  | zero => cases h
  | succ fu_l1 =>
   refine ⟨fu_l1, rfl, ?_⟩
   rw [nWrite_l1] at h
   refine Vrs hT [0, 1] ⟨[(4, kH 0), (21, kH 1), (22, kI ((l0.length : Nat) : Int)), (23, kI i23_1), (24, kB (decide (i23_1 < ((l0.length : Nat) : Int))))], [], [nb 5 l4_1, ⟨(.dp false), 78, 1, l0.length, .d (.sl 80 (.pr (.wo 63) (.pr .u8 (.by 5)))) l0⟩]⟩ ?_
   refine W_seq ?_
   refine Vi ((decide (i23_1 < ((l0.length : Nat) : Int)))) (fun g24 => ?_) (fun g24 => ?_)
   ·replace h := bif_t h g24
    refine W_skip ?_
    refine W_seq ?_
    refine W_block ?_
    obtain ⟨g1, g2, h⟩ := gd2 h
    refine Vgs hT fN [] [] [0, 1] ⟨[(4, kH 0), (6, .c (.dv 1 [(i23_1.toNat, 0)])), (21, kH 1), (22, kI ((l0.length : Nat) : Int)), (23, kI i23_1)], [], [nb 5 l4_1, ⟨(.dp false), 78, 1, l0.length, .d (.sl 80 (.pr (.wo 63) (.pr .u8 (.by 5)))) l0⟩]⟩ (aP g1 (aP g2 aN)) ?_
    refine W_seq ?_
    refine W_seq ?_
    rcases Bool.eq_false_or_eq_true (decide ((((l0.getD i23_1.toNat []).length : Nat) : Int) < (1 : Int))) with g3 | g3
    ·replace h := bif_t h g3
     refine Vg hT fN [(3, true)] [] [0, 1] ⟨[(4, kH 0), (6, .c (.dv 1 [(i23_1.toNat, 0)])), (21, kH 1), (22, kI ((l0.length : Nat) : Int)), (23, kI i23_1), (34, kB true)], [], [nb 5 l4_1, ⟨(.dp false), 78, 1, l0.length, .d (.sl 80 (.pr (.wo 63) (.pr .u8 (.by 5)))) l0⟩]⟩ (aP g3 aN) ?_
     refine Vi (true) (fun _ => ?_) (fun hb => by cases hb)
     refine Vrs hT [] ⟨[(2, .c (.nils)), (3, kE 37 (some 1))], [], []⟩ ?_
     refine Vc [.nil 2 5 1 (.b [])] [0] (nWrite_R ([], (some 1))) (W_ret ?_)
     exact ⟨.inl rfl, by cases h; rfl⟩
    ·replace h := bif_f h g3
     refine Vg hT fN [(3, false)] [] [0, 1] ⟨[(4, kH 0), (6, .c (.dv 1 [(i23_1.toNat, 0)])), (21, kH 1), (22, kI ((l0.length : Nat) : Int)), (23, kI i23_1), (34, kB (decide ((4 : Int) < (((l0.getD i23_1.toNat []).length : Nat) : Int))))], [], [nb 5 l4_1, ⟨(.dp false), 78, 1, l0.length, .d (.sl 80 (.pr (.wo 63) (.pr .u8 (.by 5)))) l0⟩]⟩ (aP g3 aN) ?_
     refine Vi ((decide ((4 : Int) < (((l0.getD i23_1.toNat []).length : Nat) : Int)))) (fun g20 => ?_) (fun g20 => ?_)
     ·replace h := bif_t h g20
      refine Vrs hT [] ⟨[(2, .c (.nils)), (3, kE 37 (some 1))], [], []⟩ ?_
      refine Vc [.nil 2 5 1 (.b [])] [0] (nWrite_R ([], (some 1))) (W_ret ?_)
      exact ⟨.inl rfl, by cases h; rfl⟩
     ·replace h := bif_f h g20
      refine W_skip ?_
      refine Vrs hT [0, 1] ⟨[(4, kH 0), (6, .c (.dv 1 [(i23_1.toNat, 0)])), (7, .c (.nils)), (8, .c (.nils)), (21, kH 1), (22, kI ((l0.length : Nat) : Int)), (23, kI i23_1)], [], [nb 5 l4_1, ⟨(.dp false), 78, 1, l0.length, .d (.sl 80 (.pr (.wo 63) (.pr .u8 (.by 5)))) l0⟩]⟩ ?_
      refine W_seq ?_
      refine Vrs hT [0, 1] ⟨[(4, kH 0), (7, .c (.nils)), (8, .c (.nils)), (21, kH 1), (22, kI ((l0.length : Nat) : Int)), (23, kI i23_1), (36, .c (.dv 1 [(i23_1.toNat, 0)])), (37, kI (((l0.getD i23_1.toNat []).length : Nat) : Int)), (38, kI 0)], [], [nb 5 l4_1, ⟨(.dp false), 78, 1, l0.length, .d (.sl 80 (.pr (.wo 63) (.pr .u8 (.by 5)))) l0⟩]⟩ ?_
      refine W_block ?_
      refine Vc [.nil 7 5 1 (.b []), .nil 8 5 1 (.b [])] [0, 2, 3, 1] (nWrite_l2_E l0 l4_1 i23_1 [] [] 0) (W_lp ((nWrite_l2_P n l0 l4_1 i23_1 (nWrite_l1 n l0 fu_l1) r)) n ⟨_, _, _, rfl, h⟩ ?_)
      rintro fu_l2 _ ⟨l7_5, l8_5, i38_5, rfl, h⟩
      cases fu_l2 with
      | zero => cases h
      | succ fu_l2 =>
       refine ⟨fu_l2, rfl, ?_⟩
       rw [nWrite_l2] at h
       refine Vrs hT [0, 1, 2, 3] ⟨[(4, kH 0), (7, kH 1), (8, kH 2), (21, kH 3), (22, kI ((l0.length : Nat) : Int)), (23, kI i23_1), (36, .c (.dv 3 [(i23_1.toNat, 0)])), (37, kI (((l0.getD i23_1.toNat []).length : Nat) : Int)), (38, kI i38_5), (39, kB (decide (i38_5 < (((l0.getD i23_1.toNat []).length : Nat) : Int))))], [], [nb 5 l4_1, nb 5 l7_5, nb 5 l8_5, ⟨(.dp false), 78, 1, l0.length, .d (.sl 80 (.pr (.wo 63) (.pr .u8 (.by 5)))) l0⟩]⟩ ?_
       refine W_seq ?_
       refine Vi ((decide (i38_5 < (((l0.getD i23_1.toNat []).length : Nat) : Int)))) (fun g19 => ?_) (fun g19 => ?_)
       ·replace h := bif_t h g19
        refine W_skip ?_
        refine W_seq ?_
        refine W_block ?_
        obtain ⟨g4, g5, h⟩ := gd2 h
        refine Vgs hT fN [] [] [0, 1, 2, 4, 3] ⟨[(4, kH 0), (7, kH 1), (8, kH 2), (9, kI i38_5), (10, kP 3 0), (21, kH 4), (22, kI ((l0.length : Nat) : Int)), (23, kI i23_1), (36, .c (.dv 4 [(i23_1.toNat, 0)])), (37, kI (((l0.getD i23_1.toNat []).length : Nat) : Int)), (38, kI i38_5)], [], [nb 5 l4_1, nb 5 l7_5, nb 5 l8_5, ⟨.blk, 80, 1, 3, .c [.dv 4 [(i38_5.toNat, 0), (i23_1.toNat, 0)], .s (.u8 (((l0.getD i23_1.toNat []).getD i38_5.toNat ([], (0, []))).2.1)), .dv 4 [(i38_5.toNat, 2), (i23_1.toNat, 0)]]⟩, ⟨(.dp false), 78, 1, l0.length, .d (.sl 80 (.pr (.wo 63) (.pr .u8 (.by 5)))) l0⟩]⟩ (aP g4 (aP g5 aN)) ?_
        obtain ⟨r45_8, g6, h⟩ := bind_some' h
        refine Vgs hT (fT 1 (nAttr_ok n r45_8) fN) [] [] [0, 1, 2, 5, 4] ⟨[(4, kH 0), (7, kH 1), (8, kH 2), (9, kI i38_5), (11, kH 3), (12, kE 37 r45_8.2), (21, kH 4), (22, kI ((l0.length : Nat) : Int)), (23, kI i23_1), (36, .c (.dv 4 [(i23_1.toNat, 0)])), (37, kI (((l0.getD i23_1.toNat []).length : Nat) : Int)), (38, kI i38_5)], [], [nb 5 l4_1, nb 5 l7_5, nb 5 l8_5, nb 5 r45_8.1, ⟨(.dp false), 78, 1, l0.length, .d (.sl 80 (.pr (.wo 63) (.pr .u8 (.by 5)))) l0⟩]⟩ (aP g6 aN) ?_
        refine W_seq ?_
        refine W_seq ?_
        rcases Bool.eq_false_or_eq_true (!((r45_8.2).isNone)) with g7 | g7
        ·replace h := bif_t h g7
         refine Vg hT fN [(2, true)] [] [0, 1, 3, 4] ⟨[(4, kH 0), (7, kH 1), (11, kH 2), (21, kH 3), (22, kI ((l0.length : Nat) : Int)), (23, kI i23_1), (36, .c (.dv 3 [(i23_1.toNat, 0)])), (37, kI (((l0.getD i23_1.toNat []).length : Nat) : Int)), (38, kI i38_5), (59, kB true)], [], [nb 5 l4_1, nb 5 l7_5, nb 5 r45_8.1, ⟨(.dp false), 78, 1, l0.length, .d (.sl 80 (.pr (.wo 63) (.pr .u8 (.by 5)))) l0⟩]⟩ (aP g7 aN) ?_
         refine Vi (true) (fun _ => ?_) (fun hb => by cases hb)
         refine Vrs hT [] ⟨[(2, .c (.nils)), (3, kE 37 (some 1))], [], []⟩ ?_
         refine Vc [.nil 2 5 1 (.b [])] [0] (nWrite_R ([], (some 1))) (W_ret ?_)
         exact ⟨.inl rfl, by cases h; rfl⟩
        ·replace h := bif_f h g7
         rcases Bool.eq_false_or_eq_true (decide ((0 : Int) < i38_5)) with g8 | g8
         ·replace h := bif_t h g8
          refine Vg hT (fT 8 cmp_h fN) [(2, false), (5, true)] [] [0, 1, 3, 4] ⟨[(4, kH 0), (7, kH 1), (11, kH 2), (21, kH 3), (22, kI ((l0.length : Nat) : Int)), (23, kI i23_1), (36, .c (.dv 3 [(i23_1.toNat, 0)])), (37, kI (((l0.getD i23_1.toNat []).length : Nat) : Int)), (38, kI i38_5), (59, kB (decide ((0 : Int) ≤ (Lib.compareBytes l8_5 r45_8.1))))], [], [nb 5 l4_1, nb 5 l7_5, nb 5 r45_8.1, ⟨(.dp false), 78, 1, l0.length, .d (.sl 80 (.pr (.wo 63) (.pr .u8 (.by 5)))) l0⟩]⟩ (aP g7 (aP g8 aN)) ?_
          refine Vi ((decide ((0 : Int) ≤ (Lib.compareBytes l8_5 r45_8.1)))) (fun g11 => ?_) (fun g11 => ?_)
          ·replace h := bif_t h g11
           refine Vrs hT [] ⟨[(2, .c (.nils)), (3, kE 37 (some 1))], [], []⟩ ?_
           refine Vc [.nil 2 5 1 (.b [])] [0] (nWrite_R ([], (some 1))) (W_ret ?_)
           exact ⟨.inl rfl, by cases h; rfl⟩
          ·replace h := bif_f h g11
           refine W_skip ?_
           obtain ⟨g9, h⟩ := gd_some h
           refine Vg hT fN [] [] [0, 4, 2, 3] ⟨[(4, kH 0), (7, kH 1), (8, kH 2), (21, kH 3), (22, kI ((l0.length : Nat) : Int)), (23, kI i23_1), (36, .c (.dv 3 [(i23_1.toNat, 0)])), (37, kI (((l0.getD i23_1.toNat []).length : Nat) : Int)), (38, kI i38_5)], [], [nb 5 l4_1, nb 5 (l7_5 ++ r45_8.1), nb 5 r45_8.1, ⟨(.dp false), 78, 1, l0.length, .d (.sl 80 (.pr (.wo 63) (.pr .u8 (.by 5)))) l0⟩]⟩ (aP g9 aN) ?_
           obtain ⟨g10, h⟩ := gd_some h
           refine Vg hT fN [] [] [0, 1, 2, 3] (nWrite_l2_E l0 l4_1 i23_1 (l7_5 ++ r45_8.1) r45_8.1 (i38_5 + 1)) (aP g10 aN) ?_
           exact ⟨_, _, _, rfl, h⟩
         ·replace h := bif_f h g8
          refine Vg hT fN [(2, false), (5, false)] [] [0, 1, 3, 4] ⟨[(4, kH 0), (7, kH 1), (11, kH 2), (21, kH 3), (22, kI ((l0.length : Nat) : Int)), (23, kI i23_1), (36, .c (.dv 3 [(i23_1.toNat, 0)])), (37, kI (((l0.getD i23_1.toNat []).length : Nat) : Int)), (38, kI i38_5), (59, kB false)], [], [nb 5 l4_1, nb 5 l7_5, nb 5 r45_8.1, ⟨(.dp false), 78, 1, l0.length, .d (.sl 80 (.pr (.wo 63) (.pr .u8 (.by 5)))) l0⟩]⟩ (aP g7 (aP g8 aN)) ?_
          refine Vi (false) (fun hb => by cases hb) (fun _ => ?_)
          refine W_skip ?_
          obtain ⟨g12, h⟩ := gd_some h
          refine Vg hT fN [] [] [0, 4, 2, 3] ⟨[(4, kH 0), (7, kH 1), (8, kH 2), (21, kH 3), (22, kI ((l0.length : Nat) : Int)), (23, kI i23_1), (36, .c (.dv 3 [(i23_1.toNat, 0)])), (37, kI (((l0.getD i23_1.toNat []).length : Nat) : Int)), (38, kI i38_5)], [], [nb 5 l4_1, nb 5 (l7_5 ++ r45_8.1), nb 5 r45_8.1, ⟨(.dp false), 78, 1, l0.length, .d (.sl 80 (.pr (.wo 63) (.pr .u8 (.by 5)))) l0⟩]⟩ (aP g12 aN) ?_
          obtain ⟨g13, h⟩ := gd_some h
          refine Vg hT fN [] [] [0, 1, 2, 3] (nWrite_l2_E l0 l4_1 i23_1 (l7_5 ++ r45_8.1) r45_8.1 (i38_5 + 1)) (aP g13 aN) ?_
          exact ⟨_, _, _, rfl, h⟩
       ·replace h := bif_f h g19
        refine Vc [] [0, 1, 3] ⟨[(4, kH 0), (7, kH 1), (21, kH 2), (22, kI ((l0.length : Nat) : Int)), (23, kI i23_1)], [], [nb 5 l4_1, nb 5 l7_5, ⟨(.dp false), 78, 1, l0.length, .d (.sl 80 (.pr (.wo 63) (.pr .u8 (.by 5)))) l0⟩]⟩ (W_exit ?_)
        obtain ⟨r69_5, g14, h⟩ := bind_some' h
        refine Vgs hT (fT 2 (tHead_ok n r69_5) fN) [] [] [0, 1, 3, 2] ⟨[(4, kH 0), (7, kH 1), (13, kH 2), (14, kE 37 r69_5.2), (21, kH 3), (22, kI ((l0.length : Nat) : Int)), (23, kI i23_1)], [], [nb 5 l4_1, nb 5 l7_5, nb 5 r69_5.1, ⟨(.dp false), 78, 1, l0.length, .d (.sl 80 (.pr (.wo 63) (.pr .u8 (.by 5)))) l0⟩]⟩ (aP g14 aN) ?_
        refine W_seq ?_
        refine Vrs hT [0, 1, 2, 3] ⟨[(4, kH 0), (7, kH 1), (13, kH 2), (21, kH 3), (22, kI ((l0.length : Nat) : Int)), (23, kI i23_1), (73, kB (!((r69_5.2).isNone)))], [], [nb 5 l4_1, nb 5 l7_5, nb 5 r69_5.1, ⟨(.dp false), 78, 1, l0.length, .d (.sl 80 (.pr (.wo 63) (.pr .u8 (.by 5)))) l0⟩]⟩ ?_
        refine Vi ((!((r69_5.2).isNone))) (fun g18 => ?_) (fun g18 => ?_)
        ·replace h := bif_t h g18
         refine Vrs hT [] ⟨[(2, .c (.nils)), (3, kE 37 (some 1))], [], []⟩ ?_
         refine Vc [.nil 2 5 1 (.b [])] [0] (nWrite_R ([], (some 1))) (W_ret ?_)
         exact ⟨.inl rfl, by cases h; rfl⟩
        ·replace h := bif_f h g18
         refine W_skip ?_
         obtain ⟨g15, g16, h⟩ := gd2 h
         refine Vg hT fN [] [] [5, 3] ⟨[(4, kH 0), (21, kH 1), (22, kI ((l0.length : Nat) : Int)), (23, kI i23_1)], [], [nb 5 ((l4_1 ++ r69_5.1) ++ l7_5), ⟨(.dp false), 78, 1, l0.length, .d (.sl 80 (.pr (.wo 63) (.pr .u8 (.by 5)))) l0⟩]⟩ (aP g15 (aP g16 aN)) ?_
         obtain ⟨g17, h⟩ := gd_some h
         refine Vg hT fN [] [] [0, 1] (nWrite_l1_E l0 ((l4_1 ++ r69_5.1) ++ l7_5) (i23_1 + 1)) (aP g17 aN) ?_
         exact ⟨_, _, rfl, h⟩
   ·replace h := bif_f h g24
    refine Vc [] [0] ⟨[(4, kH 0)], [], [nb 5 l4_1]⟩ (W_exit ?_)
    obtain ⟨r84_1, g21, h⟩ := bind_some' h
    refine Vgs hT (fT 2 (tHead_ok n r84_1) fN) [] [] [0, 1] ⟨[(4, kH 0), (15, kH 1), (16, kE 37 r84_1.2)], [], [nb 5 l4_1, nb 5 r84_1.1]⟩ (aP g21 aN) ?_
    refine W_seq ?_
    refine Vrs hT [0, 1] ⟨[(4, kH 0), (15, kH 1), (88, kB (!((r84_1.2).isNone)))], [], [nb 5 l4_1, nb 5 r84_1.1]⟩ ?_
    refine Vi ((!((r84_1.2).isNone))) (fun g23 => ?_) (fun g23 => ?_)
    ·replace h := bif_t h g23
     refine Vrs hT [] ⟨[(2, .c (.nils)), (3, kE 37 (some 1))], [], []⟩ ?_
     refine Vc [.nil 2 5 1 (.b [])] [0] (nWrite_R ([], (some 1))) (W_ret ?_)
     exact ⟨.inl rfl, by cases h; rfl⟩
    ·replace h := bif_f h g23
     refine W_skip ?_
     obtain ⟨g22, h⟩ := gd_some h
     refine Vgs hT fN [] [] [2] ⟨[(2, kH 0), (3, .c (.s (.v .nilIface)))], [], [nb 5 (r84_1.1 ++ l4_1)]⟩ (aP g22 aN) ?_
     refine Vc [.er 3 37 .i64] [0] (nWrite_R ((r84_1.1 ++ l4_1), none)) (W_ret ?_)
     exact ⟨.inl rfl, by cases h; rfl⟩
def rHead_R (r : List UInt8) : S := ⟨[(4, kH 0)], [], [nb 5 r]⟩
def rHead_ct (n : Nat) (r : List UInt8) : Ct := ctc rU8.rd fun _ l0 => ctc rI.rd fun _ l1 => ct0 fun H => ([rHead n l0 l1 = some r], shA H.length (kH 0), shH H.length [nb 5 r])
theorem rHead_ok (n : Nat) (r : List UInt8) : FnOk Tryz.prog Tr 81 (rHead_ct n r) := by
 refine fnok Tryz.func81 ?_
 refine HO_c rU8 fun l0 _ => HO_c rI fun l1 _ => HO_0 tabO_nma (rHead_R r) [.tmp 4] [0] 25 Tryz.func81 fun w hG h => ?_
 unfold rHead at h
 have hT := tabO_nma
 refine Vrs hT [] ⟨[(0, kU l0), (1, kI l1)], [], []⟩ ?_
 refine W_seq ?_
 refine Vrs hT [] ⟨[(0, kU l0), (1, kI l1), (6, kB (decide (l1 < (128 : Int))))], [], []⟩ ?_
 refine Vi ((decide (l1 < (128 : Int)))) (fun g5 => ?_) (fun g5 => ?_)
 ·replace h := bif_t h g5
  refine Vrs hT [0] ⟨[(4, kH 0)], [], [⟨.row, 5, 1, 2, .b [l0, (UInt8.ofInt l1)]⟩]⟩ ?_
  refine Vc [] [0] (rHead_R [l0, (UInt8.ofInt l1)]) (W_ret ?_)
  exact ⟨.inl rfl, by cases h; rfl⟩
 ·replace h := bif_f h g5
  refine W_skip ?_
  refine W_seq ?_
  refine Vrs hT [] ⟨[(0, kU l0), (1, kI l1), (12, kB (decide (l1 < (256 : Int))))], [], []⟩ ?_
  refine Vi ((decide (l1 < (256 : Int)))) (fun g4 => ?_) (fun g4 => ?_)
  ·replace h := bif_t h g4
   refine Vrs hT [0] ⟨[(4, kH 0)], [], [⟨.row, 5, 1, 3, .b [l0, 129, (UInt8.ofInt l1)]⟩]⟩ ?_
   refine Vc [] [0] (rHead_R [l0, 129, (UInt8.ofInt l1)]) (W_ret ?_)
   exact ⟨.inl rfl, by cases h; rfl⟩
  ·replace h := bif_f h g4
   refine W_skip ?_
   obtain ⟨g1, g2, g3, h⟩ := gd3 h
   refine Vgs hT fN [] [] [0] ⟨[(4, kH 0)], [], [⟨.row, 5, 1, 4, .b [l0, 130, (UInt8.ofInt (Int.tdiv l1 256)), (UInt8.ofInt (Int.tmod l1 256))]⟩]⟩ (aP g1 (aP g2 (aP g3 aN))) ?_
   refine Vc [] [0] (rHead_R [l0, 130, (UInt8.ofInt (Int.tdiv l1 256)), (UInt8.ofInt (Int.tmod l1 256))]) (W_ret ?_)
   exact ⟨.inl rfl, by cases h; rfl⟩
def rEl_R (r : List UInt8) : S := ⟨[(4, kH 0)], [], [nb 5 r]⟩
def rEl_ct (n : Nat) (r : List UInt8) : Ct := ctc rU8.rd fun _ l0 => ctc (rB 5).rd fun _ l1 => ct0 fun H => ([rEl n l0 l1 = some r], shA H.length (kH 0), shH H.length [nb 5 r])
theorem rEl_ok (n : Nat) (r : List UInt8) : FnOk Tryz.prog Tr 48 (rEl_ct n r) := by
 refine fnok Tryz.func48 ?_
 refine HO_c rU8 fun l0 _ => HO_c (rB 5) fun l1 _ => HO_0 tabO_nma (rEl_R r) [.tmp 4] [0] 11 Tryz.func48 fun w hG h => ?_
 unfold rEl at h
 have hT := tabO_nma
 refine Vrs hT [0] ⟨[(0, kU l0), (1, kH 0)], [], [ob 5 l1]⟩ ?_
 obtain ⟨r8, g1, h⟩ := bind_some' h
 obtain ⟨g2, h⟩ := gd_some h
 refine Vgs hT (fT 3 (rHead_ok n r8) fN) [] [] [2] ⟨[(4, kH 0)], [], [nb 5 (r8 ++ l1)]⟩ (aP g1 (aP g2 aN)) ?_
 refine Vc [] [0] (rEl_R (r8 ++ l1)) (W_ret ?_)
 exact ⟨.inl rfl, by cases h; rfl⟩
def rAttr_R (r : List UInt8 × Bool) : S := ⟨[(2, kH 0), (3, kB r.2)], [], [nb 5 r.1]⟩
def rAttr_ct (n : Nat) (r : List UInt8 × Bool) : Ct := ctc (rSt (lC (cW 63) (lC cU8 (lC (cB 5) lN)))).rd fun _ y0 => ct0 fun H => ([rAttr n y0.1 y0.2.1 y0.2.2.1 = some r], shA H.length (.t [.c (.wh 0), .c (.s (.b r.2))]), shH H.length [nb 5 r.1])
theorem rAttr_ok (n : Nat) (r : List UInt8 × Bool) : FnOk Tryz.prog Tr 47 (rAttr_ct n r) := by
 refine fnok Tryz.func47 ?_
 refine HO_c (rSt (lC (cW 63) (lC cU8 (lC (cB 5) lN)))) fun p0 _ => ?_
 obtain ⟨l0_0, l0_1, l0_2, _⟩ := p0
 refine HO_0 tabO_nma (rAttr_R r) [.tmp 2, .tmp 3] [0] 49 Tryz.func47 fun w hG h => ?_
 have h : rAttr n l0_0 l0_1 l0_2 = some r := h
 unfold rAttr at h
 have hT := tabO_nma
 refine Vrs hT [2, 0, 1] ⟨[(1, kP 0 0)], [], [⟨.blk, 80, 1, 3, .c [.wh 1, .s (.u8 l0_1), .wh 2]⟩, ow 63 l0_0, ob 5 l0_2]⟩ ?_
 refine W_seq ?_
 refine W_seq ?_
 rcases Bool.eq_false_or_eq_true (l0_1 != 12) with g1 | g1
 ·replace h := bif_t h g1
  rcases Bool.eq_false_or_eq_true (l0_1 != 19) with g2 | g2
  ·replace h := bif_t h g2
   refine Vg hT fN [(3, true), (8, true)] [] [0, 1, 2] ⟨[(1, kP 0 0), (24, kB true)], [], [⟨.blk, 80, 1, 3, .c [.wh 1, .s (.u8 l0_1), .wh 2]⟩, ow 63 l0_0, ob 5 l0_2]⟩ (aP g1 (aP g2 aN)) ?_
   refine Vi (true) (fun _ => ?_) (fun hb => by cases hb)
   refine Vrs hT [] ⟨[(2, .c (.nils)), (3, kB false)], [], []⟩ ?_
   refine Vc [.nil 2 5 1 (.b [])] [0] (rAttr_R ([], false)) (W_ret ?_)
   exact ⟨.inl rfl, by cases h; rfl⟩
  ·replace h := bif_f h g2
   rcases Bool.eq_false_or_eq_true (decide (((l0_2.length : Nat) : Int) < (1 : Int))) with g3 | g3
   ·replace h := bif_t h g3
    refine Vg hT fN [(3, true), (8, false), (14, true)] [] [0, 1, 2] ⟨[(1, kP 0 0), (24, kB true)], [], [⟨.blk, 80, 1, 3, .c [.wh 1, .s (.u8 l0_1), .wh 2]⟩, ow 63 l0_0, ob 5 l0_2]⟩ (aP g1 (aP g2 (aP g3 aN))) ?_
    refine Vi (true) (fun _ => ?_) (fun hb => by cases hb)
    refine Vrs hT [] ⟨[(2, .c (.nils)), (3, kB false)], [], []⟩ ?_
    refine Vc [.nil 2 5 1 (.b [])] [0] (rAttr_R ([], false)) (W_ret ?_)
    exact ⟨.inl rfl, by cases h; rfl⟩
   ·replace h := bif_f h g3
    refine Vg hT fN [(3, true), (8, false), (14, false)] [] [0, 1, 2] ⟨[(1, kP 0 0), (24, kB (decide ((64 : Int) < ((l0_2.length : Nat) : Int))))], [], [⟨.blk, 80, 1, 3, .c [.wh 1, .s (.u8 l0_1), .wh 2]⟩, ow 63 l0_0, ob 5 l0_2]⟩ (aP g1 (aP g2 (aP g3 aN))) ?_
    refine Vi ((decide ((64 : Int) < ((l0_2.length : Nat) : Int)))) (fun g13 => ?_) (fun g13 => ?_)
    ·replace h := bif_t h g13
     refine Vrs hT [] ⟨[(2, .c (.nils)), (3, kB false)], [], []⟩ ?_
     refine Vc [.nil 2 5 1 (.b [])] [0] (rAttr_R ([], false)) (W_ret ?_)
     exact ⟨.inl rfl, by cases h; rfl⟩
    ·replace h := bif_f h g13
     refine Vc [] [0, 1, 2] ⟨[(1, kP 0 0)], [], [⟨.blk, 80, 1, 3, .c [.wh 1, .s (.u8 l0_1), .wh 2]⟩, ow 63 l0_0, ob 5 l0_2]⟩ (W_skip ?_)
     refine W_seq ?_
     refine W_seq ?_
     obtain ⟨r27, g4, h⟩ := bind_some' h
     rcases Bool.eq_false_or_eq_true (!r27) with g5 | g5
     ·replace h := bif_t h g5
      refine Vg hT (fT 2 (rOid_ok n r27) fN) [(4, true)] [] [0, 1, 2] ⟨[(1, kP 0 0), (36, kB true)], [], [⟨.blk, 80, 1, 3, .c [.wh 1, .s (.u8 l0_1), .wh 2]⟩, ow 63 l0_0, ob 5 l0_2]⟩ (aP g4 (aP g5 aN)) ?_
      refine Vi (true) (fun _ => ?_) (fun hb => by cases hb)
      refine Vrs hT [] ⟨[(2, .c (.nils)), (3, kB false)], [], []⟩ ?_
      refine Vc [.nil 2 5 1 (.b [])] [0] (rAttr_R ([], false)) (W_ret ?_)
      exact ⟨.inl rfl, by cases h; rfl⟩
     ·replace h := bif_f h g5
      obtain ⟨r34, g6, h⟩ := bind_some' h
      refine Vg hT (fT 2 (rOid_ok n r27) (fT 9 (rText_ok n r34) fN)) [(4, false)] [] [0, 1, 2] ⟨[(1, kP 0 0), (36, kB (!r34))], [], [⟨.blk, 80, 1, 3, .c [.wh 1, .s (.u8 l0_1), .wh 2]⟩, ow 63 l0_0, ob 5 l0_2]⟩ (aP g4 (aP g5 (aP g6 aN))) ?_
      refine Vi ((!r34)) (fun g12 => ?_) (fun g12 => ?_)
      ·replace h := bif_t h g12
       refine Vrs hT [] ⟨[(2, .c (.nils)), (3, kB false)], [], []⟩ ?_
       refine Vc [.nil 2 5 1 (.b [])] [0] (rAttr_R ([], false)) (W_ret ?_)
       exact ⟨.inl rfl, by cases h; rfl⟩
      ·replace h := bif_f h g12
       refine W_skip ?_
       obtain ⟨r39, g7, h⟩ := bind_some' h
       obtain ⟨r40, g8, h⟩ := bind_some' h
       obtain ⟨r45, g9, h⟩ := bind_some' h
       obtain ⟨g10, h⟩ := gd_some h
       refine Vds hT (fT 2 (rOidBody_ok n r39) (fT 3 (rEl_ok n r40) (fT 8 (rEl_ok n r45) fN))) 8 [] [(40, false), (42, false), (44, false)] [] [5] ⟨[(4, kH 0)], [], [nb 5 (r40 ++ r45)]⟩ (aP g7 (aP g8 (aP g9 (aP g10 aN)))) ?_
       obtain ⟨r48, g11, h⟩ := bind_some' h
       refine Vgs hT (fT 1 (rEl_ok n r48) fN) [] [] [1] ⟨[(2, kH 0), (3, kB true)], [], [nb 5 r48]⟩ (aP g11 aN) ?_
       refine Vc [] [0] (rAttr_R (r48, true)) (W_ret ?_)
       exact ⟨.inl rfl, by cases h; rfl⟩
 ·replace h := bif_f h g1
  rcases Bool.eq_false_or_eq_true (decide (((l0_2.length : Nat) : Int) < (1 : Int))) with g14 | g14
  ·replace h := bif_t h g14
   refine Vg hT fN [(3, false), (14, true)] [] [0, 1, 2] ⟨[(1, kP 0 0), (24, kB true)], [], [⟨.blk, 80, 1, 3, .c [.wh 1, .s (.u8 l0_1), .wh 2]⟩, ow 63 l0_0, ob 5 l0_2]⟩ (aP g1 (aP g14 aN)) ?_
   refine Vi (true) (fun _ => ?_) (fun hb => by cases hb)
   refine Vrs hT [] ⟨[(2, .c (.nils)), (3, kB false)], [], []⟩ ?_
   refine Vc [.nil 2 5 1 (.b [])] [0] (rAttr_R ([], false)) (W_ret ?_)
   exact ⟨.inl rfl, by cases h; rfl⟩
  ·replace h := bif_f h g14
   refine Vg hT fN [(3, false), (14, false)] [] [0, 1, 2] ⟨[(1, kP 0 0), (24, kB (decide ((64 : Int) < ((l0_2.length : Nat) : Int))))], [], [⟨.blk, 80, 1, 3, .c [.wh 1, .s (.u8 l0_1), .wh 2]⟩, ow 63 l0_0, ob 5 l0_2]⟩ (aP g1 (aP g14 aN)) ?_
   refine Vi ((decide ((64 : Int) < ((l0_2.length : Nat) : Int)))) (fun g24 => ?_) (fun g24 => ?_)
   ·replace h := bif_t h g24
    refine Vrs hT [] ⟨[(2, .c (.nils)), (3, kB false)], [], []⟩ ?_
    refine Vc [.nil 2 5 1 (.b [])] [0] (rAttr_R ([], false)) (W_ret ?_)
    exact ⟨.inl rfl, by cases h; rfl⟩
   ·replace h := bif_f h g24
    refine Vc [] [0, 1, 2] ⟨[(1, kP 0 0)], [], [⟨.blk, 80, 1, 3, .c [.wh 1, .s (.u8 l0_1), .wh 2]⟩, ow 63 l0_0, ob 5 l0_2]⟩ (W_skip ?_)
    refine W_seq ?_
    refine W_seq ?_
    obtain ⟨r27, g15, h⟩ := bind_some' h
    rcases Bool.eq_false_or_eq_true (!r27) with g16 | g16
    ·replace h := bif_t h g16
     refine Vg hT (fT 2 (rOid_ok n r27) fN) [(4, true)] [] [0, 1, 2] ⟨[(1, kP 0 0), (36, kB true)], [], [⟨.blk, 80, 1, 3, .c [.wh 1, .s (.u8 l0_1), .wh 2]⟩, ow 63 l0_0, ob 5 l0_2]⟩ (aP g15 (aP g16 aN)) ?_
     refine Vi (true) (fun _ => ?_) (fun hb => by cases hb)
     refine Vrs hT [] ⟨[(2, .c (.nils)), (3, kB false)], [], []⟩ ?_
     refine Vc [.nil 2 5 1 (.b [])] [0] (rAttr_R ([], false)) (W_ret ?_)
     exact ⟨.inl rfl, by cases h; rfl⟩
    ·replace h := bif_f h g16
     obtain ⟨r34, g17, h⟩ := bind_some' h
     refine Vg hT (fT 2 (rOid_ok n r27) (fT 9 (rText_ok n r34) fN)) [(4, false)] [] [0, 1, 2] ⟨[(1, kP 0 0), (36, kB (!r34))], [], [⟨.blk, 80, 1, 3, .c [.wh 1, .s (.u8 l0_1), .wh 2]⟩, ow 63 l0_0, ob 5 l0_2]⟩ (aP g15 (aP g16 (aP g17 aN))) ?_
     refine Vi ((!r34)) (fun g23 => ?_) (fun g23 => ?_)
     ·replace h := bif_t h g23
      refine Vrs hT [] ⟨[(2, .c (.nils)), (3, kB false)], [], []⟩ ?_
      refine Vc [.nil 2 5 1 (.b [])] [0] (rAttr_R ([], false)) (W_ret ?_)
      exact ⟨.inl rfl, by cases h; rfl⟩
     ·replace h := bif_f h g23
      refine W_skip ?_
      obtain ⟨r39, g18, h⟩ := bind_some' h
      obtain ⟨r40, g19, h⟩ := bind_some' h
      obtain ⟨r45, g20, h⟩ := bind_some' h
      obtain ⟨g21, h⟩ := gd_some h
      refine Vds hT (fT 2 (rOidBody_ok n r39) (fT 3 (rEl_ok n r40) (fT 8 (rEl_ok n r45) fN))) 8 [] [(40, false), (42, false), (44, false)] [] [5] ⟨[(4, kH 0)], [], [nb 5 (r40 ++ r45)]⟩ (aP g18 (aP g19 (aP g20 (aP g21 aN)))) ?_
      obtain ⟨r48, g22, h⟩ := bind_some' h
      refine Vgs hT (fT 1 (rEl_ok n r48) fN) [] [] [1] ⟨[(2, kH 0), (3, kB true)], [], [nb 5 r48]⟩ (aP g22 aN) ?_
      refine Vc [] [0] (rAttr_R (r48, true)) (W_ret ?_)
      exact ⟨.inl rfl, by cases h; rfl⟩
def r9Write_l2_E (a0 : List (List (List UInt32 × (UInt8 × List UInt8)))) (l4_1 : List UInt8) (i5_1 : Int) (l6_5 : List UInt8) (l7_5 : List UInt8) (i8_5 : Int) : S := ⟨[(0, kH 0), (4, kH 1), (5, kI i5_1), (6, kH 2), (7, kT l7_5), (8, kI i8_5)], [], [⟨(.dp false), 78, 1, a0.length, .d (.sl 80 (.pr (.wo 63) (.pr .u8 (.by 5)))) a0⟩, nb 5 l4_1, nb 5 l6_5]⟩
abbrev r9Write_l2_P (n : Nat) (a0 : List (List (List UInt32 × (UInt8 × List UInt8)))) (l4_1 : List UInt8) (i5_1 : Int) (k_l1 : (List UInt8) → Int → Option (List UInt8 × Bool)) (r : List UInt8 × Bool) (fu : Nat) : S → Prop := fun s => ∃ (l6_5 : List UInt8), ∃ (l7_5 : List UInt8), ∃ (i8_5 : Int), s = r9Write_l2_E a0 l4_1 i5_1 l6_5 l7_5 i8_5 ∧ r9Write_l2 n a0 l4_1 i5_1 k_l1 fu l6_5 l7_5 i8_5 = some r
def r9Write_l1_E (a0 : List (List (List UInt32 × (UInt8 × List UInt8)))) (l4_1 : List UInt8) (i5_1 : Int) : S := ⟨[(0, kH 0), (4, kH 1), (5, kI i5_1)], [], [⟨(.dp false), 78, 1, a0.length, .d (.sl 80 (.pr (.wo 63) (.pr .u8 (.by 5)))) a0⟩, nb 5 l4_1]⟩
abbrev r9Write_l1_P (n : Nat) (a0 : List (List (List UInt32 × (UInt8 × List UInt8)))) (r : List UInt8 × Bool) (fu : Nat) : S → Prop := fun s => ∃ (l4_1 : List UInt8), ∃ (i5_1 : Int), s = r9Write_l1_E a0 l4_1 i5_1 ∧ r9Write_l1 n a0 fu l4_1 i5_1 = some r
def r9Write_R (r : List UInt8 × Bool) : S := ⟨[(2, kH 0), (3, kB r.2)], [], [nb 5 r.1]⟩
def r9Write_ct (n : Nat) (r : List UInt8 × Bool) : Ct := ctc (rD 78 (.sl 80 (.pr (.wo 63) (.pr .u8 (.by 5))))).rd fun _ l0 => ct0 fun H => ([r9Write n l0 = some r], shA H.length (.t [.c (.wh 0), .c (.s (.b r.2))]), shH H.length [nb 5 r.1])
theorem r9Write_ok (n : Nat) (r : List UInt8 × Bool) : FnOk Tryz.prog Tr 19 (r9Write_ct n r) := by
 refine fnok Tryz.func19 ?_
 refine HO_c (rD 78 (.sl 80 (.pr (.wo 63) (.pr .u8 (.by 5))))) fun (l0 : List (List (List UInt32 × (UInt8 × List UInt8)))) _ => HO_0 tabO_nma (r9Write_R r) [.tmp 2, .tmp 3] [0] 77 Tryz.func19 fun w hG h => ?_
 unfold r9Write at h
 have hT := tabO_nma
 refine Vrs hT [0] ⟨[(0, kH 0)], [], [⟨(.dp false), 78, 1, l0.length, .d (.sl 80 (.pr (.wo 63) (.pr .u8 (.by 5)))) l0⟩]⟩ ?_
 refine W_seq ?_
 refine Vrs hT [0] ⟨[(0, kH 0), (13, kB (decide ((8 : Int) < ((l0.length : Nat) : Int))))], [], [⟨(.dp false), 78, 1, l0.length, .d (.sl 80 (.pr (.wo 63) (.pr .u8 (.by 5)))) l0⟩]⟩ ?_
 refine Vi ((decide ((8 : Int) < ((l0.length : Nat) : Int)))) (fun g27 => ?_) (fun g27 => ?_)
 ·replace h := bif_t h g27
  refine Vrs hT [] ⟨[(2, .c (.nils)), (3, kB false)], [], []⟩ ?_
  refine Vc [.nil 2 5 1 (.b [])] [0] (r9Write_R ([], false)) (W_ret ?_)
  exact ⟨.inl rfl, by cases h; rfl⟩
 ·replace h := bif_f h g27
  refine W_skip ?_
  refine Vrs hT [0] ⟨[(0, kH 0), (4, .c (.nils))], [], [⟨(.dp false), 78, 1, l0.length, .d (.sl 80 (.pr (.wo 63) (.pr .u8 (.by 5)))) l0⟩]⟩ ?_
  refine W_seq ?_
  refine Vrs hT [0] ⟨[(0, kH 0), (4, .c (.nils)), (5, kI 0)], [], [⟨(.dp false), 78, 1, l0.length, .d (.sl 80 (.pr (.wo 63) (.pr .u8 (.by 5)))) l0⟩]⟩ ?_
  refine W_block ?_
  refine Vc [.nil 4 5 1 (.b [])] [0, 1] (r9Write_l1_E l0 [] 0) (W_lp ((r9Write_l1_P n l0 r)) n ⟨_, _, rfl, h⟩ ?_)
  rintro fu_l1 _ ⟨l4_1, i5_1, rfl, h⟩
  cases fu_l1 with
  | zero => cases h
  | succ fu_l1 =>
   refine ⟨fu_l1, rfl, ?_⟩
   rw [r9Write_l1] at h
   refine W_seq ?_
   refine Vrs hT [0, 1] ⟨[(0, kH 0), (4, kH 1), (5, kI i5_1), (17, kB (decide (i5_1 < ((l0.length : Nat) : Int))))], [], [⟨(.dp false), 78, 1, l0.length, .d (.sl 80 (.pr (.wo 63) (.pr .u8 (.by 5)))) l0⟩, nb 5 l4_1]⟩ ?_
   refine Vi ((decide (i5_1 < ((l0.length : Nat) : Int)))) (fun g26 => ?_) (fun g26 => ?_)
   ·replace h := bif_t h g26
    refine Vc [] [0, 1] ⟨[(0, kH 0), (4, kH 1), (5, kI i5_1)], [], [⟨(.dp false), 78, 1, l0.length, .d (.sl 80 (.pr (.wo 63) (.pr .u8 (.by 5)))) l0⟩, nb 5 l4_1]⟩ (W_skip ?_)
    refine W_seq ?_
    refine W_block ?_
    refine W_seq ?_
    refine W_seq ?_
    obtain ⟨g1, g2, h⟩ := gd2 h
    rcases Bool.eq_false_or_eq_true (decide ((((l0.getD i5_1.toNat []).length : Nat) : Int) < (1 : Int))) with g3 | g3
    ·replace h := bif_t h g3
     refine Vg hT fN [(6, true)] [] [0, 1] ⟨[(0, kH 0), (4, kH 1), (5, kI i5_1), (33, kB true)], [], [⟨(.dp false), 78, 1, l0.length, .d (.sl 80 (.pr (.wo 63) (.pr .u8 (.by 5)))) l0⟩, nb 5 l4_1]⟩ (aP g1 (aP g2 (aP g3 aN))) ?_
     refine Vi (true) (fun _ => ?_) (fun hb => by cases hb)
     refine Vrs hT [] ⟨[(2, .c (.nils)), (3, kB false)], [], []⟩ ?_
     refine Vc [.nil 2 5 1 (.b [])] [0] (r9Write_R ([], false)) (W_ret ?_)
     exact ⟨.inl rfl, by cases h; rfl⟩
    ·replace h := bif_f h g3
     obtain ⟨g4, g5, h⟩ := gd2 h
     refine Vg hT fN [(6, false)] [] [0, 1] ⟨[(0, kH 0), (4, kH 1), (5, kI i5_1), (33, kB (decide ((4 : Int) < (((l0.getD i5_1.toNat []).length : Nat) : Int))))], [], [⟨(.dp false), 78, 1, l0.length, .d (.sl 80 (.pr (.wo 63) (.pr .u8 (.by 5)))) l0⟩, nb 5 l4_1]⟩ (aP g1 (aP g2 (aP g3 (aP g4 (aP g5 aN))))) ?_
     refine Vi ((decide ((4 : Int) < (((l0.getD i5_1.toNat []).length : Nat) : Int)))) (fun g24 => ?_) (fun g24 => ?_)
     ·replace h := bif_t h g24
      refine Vrs hT [] ⟨[(2, .c (.nils)), (3, kB false)], [], []⟩ ?_
      refine Vc [.nil 2 5 1 (.b [])] [0] (r9Write_R ([], false)) (W_ret ?_)
      exact ⟨.inl rfl, by cases h; rfl⟩
     ·replace h := bif_f h g24
      refine W_skip ?_
      refine Vrs hT [0, 1] ⟨[(0, kH 0), (4, kH 1), (5, kI i5_1), (6, .c (.nils))], [], [⟨(.dp false), 78, 1, l0.length, .d (.sl 80 (.pr (.wo 63) (.pr .u8 (.by 5)))) l0⟩, nb 5 l4_1]⟩ ?_
      refine Vrs hT [0, 1] ⟨[(0, kH 0), (4, kH 1), (5, kI i5_1), (6, .c (.nils)), (7, kT ([] : List UInt8))], [], [⟨(.dp false), 78, 1, l0.length, .d (.sl 80 (.pr (.wo 63) (.pr .u8 (.by 5)))) l0⟩, nb 5 l4_1]⟩ ?_
      refine W_seq ?_
      refine Vrs hT [0, 1] ⟨[(0, kH 0), (4, kH 1), (5, kI i5_1), (6, .c (.nils)), (7, kT ([] : List UInt8)), (8, kI 0)], [], [⟨(.dp false), 78, 1, l0.length, .d (.sl 80 (.pr (.wo 63) (.pr .u8 (.by 5)))) l0⟩, nb 5 l4_1]⟩ ?_
      refine W_block ?_
      refine Vc [.nil 6 5 1 (.b [])] [0, 1, 2] (r9Write_l2_E l0 l4_1 i5_1 [] ([] : List UInt8) 0) (W_lp ((r9Write_l2_P n l0 l4_1 i5_1 (r9Write_l1 n l0 fu_l1) r)) n ⟨_, _, _, rfl, h⟩ ?_)
      rintro fu_l2 _ ⟨l6_5, l7_5, i8_5, rfl, h⟩
      cases fu_l2 with
      | zero => cases h
      | succ fu_l2 =>
       refine ⟨fu_l2, rfl, ?_⟩
       rw [r9Write_l2] at h
       refine W_seq ?_
       obtain ⟨g6, g7, h⟩ := gd2 h
       refine Vgs hT fN [] [] [0, 1, 2] ⟨[(0, kH 0), (4, kH 1), (5, kI i5_1), (6, kH 2), (7, kT l7_5), (8, kI i8_5), (40, kB (decide (i8_5 < (((l0.getD i5_1.toNat []).length : Nat) : Int))))], [], [⟨(.dp false), 78, 1, l0.length, .d (.sl 80 (.pr (.wo 63) (.pr .u8 (.by 5)))) l0⟩, nb 5 l4_1, nb 5 l6_5]⟩ (aP g6 (aP g7 aN)) ?_
       refine Vi ((decide (i8_5 < (((l0.getD i5_1.toNat []).length : Nat) : Int)))) (fun g23 => ?_) (fun g23 => ?_)
       ·replace h := bif_t h g23
        refine W_skip ?_
        refine W_seq ?_
        refine W_block ?_
        obtain ⟨g8, g9, g10, g11, h⟩ := gd4 h
        obtain ⟨r51_8, g12, h⟩ := bind_some' h
        refine Vgs hT (fT 7 (rAttr_ok n r51_8) fN) [] [] [0, 1, 2, 3] ⟨[(0, kH 0), (4, kH 1), (5, kI i5_1), (6, kH 2), (7, kT l7_5), (8, kI i8_5), (9, kH 3), (10, kB r51_8.2)], [], [⟨(.dp false), 78, 1, l0.length, .d (.sl 80 (.pr (.wo 63) (.pr .u8 (.by 5)))) l0⟩, nb 5 l4_1, nb 5 l6_5, nb 5 r51_8.1]⟩ (aP g8 (aP g9 (aP g10 (aP g11 (aP g12 aN))))) ?_
        refine W_seq ?_
        refine W_seq ?_
        rcases Bool.eq_false_or_eq_true (!r51_8.2) with g13 | g13
        ·replace h := bif_t h g13
         refine Vg hT fN [(2, true)] [] [0, 1, 2, 3] ⟨[(0, kH 0), (4, kH 1), (5, kI i5_1), (6, kH 2), (8, kI i8_5), (9, kH 3), (65, kB true)], [], [⟨(.dp false), 78, 1, l0.length, .d (.sl 80 (.pr (.wo 63) (.pr .u8 (.by 5)))) l0⟩, nb 5 l4_1, nb 5 l6_5, nb 5 r51_8.1]⟩ (aP g13 aN) ?_
         refine Vi (true) (fun _ => ?_) (fun hb => by cases hb)
         refine Vrs hT [] ⟨[(2, .c (.nils)), (3, kB false)], [], []⟩ ?_
         refine Vc [.nil 2 5 1 (.b [])] [0] (r9Write_R ([], false)) (W_ret ?_)
         exact ⟨.inl rfl, by cases h; rfl⟩
        ·replace h := bif_f h g13
         rcases Bool.eq_false_or_eq_true (decide ((0 : Int) < i8_5)) with g14 | g14
         ·replace h := bif_t h g14
          refine Vg hT fN [(2, false), (5, true)] [] [0, 1, 2, 3] ⟨[(0, kH 0), (4, kH 1), (5, kI i5_1), (6, kH 2), (8, kI i8_5), (9, kH 3), (65, kB (!Op.bytesLess l7_5 r51_8.1))], [], [⟨(.dp false), 78, 1, l0.length, .d (.sl 80 (.pr (.wo 63) (.pr .u8 (.by 5)))) l0⟩, nb 5 l4_1, nb 5 l6_5, nb 5 r51_8.1]⟩ (aP g13 (aP g14 aN)) ?_
          refine Vi ((!Op.bytesLess l7_5 r51_8.1)) (fun g17 => ?_) (fun g17 => ?_)
          ·replace h := bif_t h g17
           refine Vrs hT [] ⟨[(2, .c (.nils)), (3, kB false)], [], []⟩ ?_
           refine Vc [.nil 2 5 1 (.b [])] [0] (r9Write_R ([], false)) (W_ret ?_)
           exact ⟨.inl rfl, by cases h; rfl⟩
          ·replace h := bif_f h g17
           refine W_skip ?_
           refine Vrs hT [0, 1, 2, 3] ⟨[(0, kH 0), (4, kH 1), (5, kI i5_1), (6, kH 2), (7, kT r51_8.1), (8, kI i8_5), (9, kH 3)], [], [⟨(.dp false), 78, 1, l0.length, .d (.sl 80 (.pr (.wo 63) (.pr .u8 (.by 5)))) l0⟩, nb 5 l4_1, nb 5 l6_5, nb 5 r51_8.1]⟩ ?_
           obtain ⟨g15, h⟩ := gd_some h
           refine Vg hT fN [] [] [0, 1, 4] ⟨[(0, kH 0), (4, kH 1), (5, kI i5_1), (6, kH 2), (7, kT r51_8.1), (8, kI i8_5)], [], [⟨(.dp false), 78, 1, l0.length, .d (.sl 80 (.pr (.wo 63) (.pr .u8 (.by 5)))) l0⟩, nb 5 l4_1, nb 5 (l6_5 ++ r51_8.1)]⟩ (aP g15 aN) ?_
           obtain ⟨g16, h⟩ := gd_some h
           refine Vg hT fN [] [] [0, 1, 2] (r9Write_l2_E l0 l4_1 i5_1 (l6_5 ++ r51_8.1) r51_8.1 (i8_5 + 1)) (aP g16 aN) ?_
           exact ⟨_, _, _, rfl, h⟩
         ·replace h := bif_f h g14
          refine Vg hT fN [(2, false), (5, false)] [] [0, 1, 2, 3] ⟨[(0, kH 0), (4, kH 1), (5, kI i5_1), (6, kH 2), (8, kI i8_5), (9, kH 3), (65, kB false)], [], [⟨(.dp false), 78, 1, l0.length, .d (.sl 80 (.pr (.wo 63) (.pr .u8 (.by 5)))) l0⟩, nb 5 l4_1, nb 5 l6_5, nb 5 r51_8.1]⟩ (aP g13 (aP g14 aN)) ?_
          refine Vi (false) (fun hb => by cases hb) (fun _ => ?_)
          refine W_skip ?_
          refine Vrs hT [0, 1, 2, 3] ⟨[(0, kH 0), (4, kH 1), (5, kI i5_1), (6, kH 2), (7, kT r51_8.1), (8, kI i8_5), (9, kH 3)], [], [⟨(.dp false), 78, 1, l0.length, .d (.sl 80 (.pr (.wo 63) (.pr .u8 (.by 5)))) l0⟩, nb 5 l4_1, nb 5 l6_5, nb 5 r51_8.1]⟩ ?_
          obtain ⟨g18, h⟩ := gd_some h
          refine Vg hT fN [] [] [0, 1, 4] ⟨[(0, kH 0), (4, kH 1), (5, kI i5_1), (6, kH 2), (7, kT r51_8.1), (8, kI i8_5)], [], [⟨(.dp false), 78, 1, l0.length, .d (.sl 80 (.pr (.wo 63) (.pr .u8 (.by 5)))) l0⟩, nb 5 l4_1, nb 5 (l6_5 ++ r51_8.1)]⟩ (aP g18 aN) ?_
          obtain ⟨g19, h⟩ := gd_some h
          refine Vg hT fN [] [] [0, 1, 2] (r9Write_l2_E l0 l4_1 i5_1 (l6_5 ++ r51_8.1) r51_8.1 (i8_5 + 1)) (aP g19 aN) ?_
          exact ⟨_, _, _, rfl, h⟩
       ·replace h := bif_f h g23
        refine Vc [] [0, 1, 2] ⟨[(0, kH 0), (4, kH 1), (5, kI i5_1), (6, kH 2)], [], [⟨(.dp false), 78, 1, l0.length, .d (.sl 80 (.pr (.wo 63) (.pr .u8 (.by 5)))) l0⟩, nb 5 l4_1, nb 5 l6_5]⟩ (W_exit ?_)
        obtain ⟨r73_5, g20, h⟩ := bind_some' h
        obtain ⟨g21, h⟩ := gd_some h
        refine Vg hT (fT 2 (rEl_ok n r73_5) fN) [] [] [0, 4] ⟨[(0, kH 0), (4, kH 1), (5, kI i5_1)], [], [⟨(.dp false), 78, 1, l0.length, .d (.sl 80 (.pr (.wo 63) (.pr .u8 (.by 5)))) l0⟩, nb 5 (l4_1 ++ r73_5)]⟩ (aP g20 (aP g21 aN)) ?_
        obtain ⟨g22, h⟩ := gd_some h
        refine Vg hT fN [] [] [0, 1] (r9Write_l1_E l0 (l4_1 ++ r73_5) (i5_1 + 1)) (aP g22 aN) ?_
        exact ⟨_, _, rfl, h⟩
   ·replace h := bif_f h g26
    refine Vc [] [1] ⟨[(4, kH 0)], [], [nb 5 l4_1]⟩ (W_exit ?_)
    obtain ⟨r76_1, g25, h⟩ := bind_some' h
    refine Vgs hT (fT 1 (rEl_ok n r76_1) fN) [] [] [1] ⟨[(2, kH 0), (3, kB true)], [], [nb 5 r76_1]⟩ (aP g25 aN) ?_
    refine Vc [] [0] (r9Write_R (r76_1, true)) (W_ret ?_)
    exact ⟨.inl rfl, by cases h; rfl⟩
end Go.Proofs.YtiojofjllkhbhaaGreat
end
section
namespace Go.Sx
open Go Go.RowKit Go.Ch Go.Proofs.YtiojofjllkhbhaaGreat
theorem mk_all : ∀ i : Fin 256, ((UInt8.ofNat i.1 &&& 31) != 31) = ((UInt8.ofNat i.1 % 32) != 31) := by decide +kernel
theorem mk_eq (x : UInt8) : ((x &&& 31) != 31) = ((x % 32) != 31) := by simpa using mk_all ⟨x.toNat, x.toNat_lt⟩
theorem tvalid_is (n : Nat) (x : UInt8) : tvalid n x = some (x % 32 != 31) := by unfold tvalid; rw [mk_eq]
theorem ofInt_mod (x : Int) : UInt8.ofInt (x % 256) = UInt8.ofInt x := by
 unfold UInt8.ofInt; congr 2; omega
def hdF (m : UInt8) (k : Int) : List UInt8 := bif decide (k < 128) then [m, UInt8.ofInt k] else bif decide (k < 256) then [m, 129, UInt8.ofInt k] else [m, 130, UInt8.ofInt (k / 256), UInt8.ofInt k]
theorem hdF_len (m : UInt8) (k : Int) : (hdF m k).length ≤ 4 := by
 unfold hdF; cases decide (k < 128) with
 | true => simp
 | false => cases decide (k < 256) with
  | true => simp
  | false => simp
theorem tHead_is (n : Nat) {m : UInt8} {k : Int} (hm : (m % 32 != 31) = true) (h0 : 0 ≤ k) (h1 : k ≤ 65535) : tHead n m k = some (hdF m k, none) := by
 unfold tHead hdF
 rw [tvalid_is, Option.bind_some, ite_f (by rw [hm]; rfl), ite_f (decide_eq_false (by omega)), ite_f (decide_eq_false (by omega))]
 cases decide (k < 128) with
 | true => rfl
 | false => cases decide (k < 256) with
  | true => rfl
  | false => simp only [cond_false]; rw [gd_pos (by decide), gd_pos (by decide)]; rfl
theorem rHead_is (n : Nat) {m : UInt8} {k : Int} (h0 : 0 ≤ k) (h1 : k ≤ 9223372036854775807) : rHead n m k = some (hdF m k) := by
 unfold rHead hdF
 cases decide (k < 128) with
 | true => rfl
 | false => cases decide (k < 256) with
  | true => rfl
  | false =>
   simp only [cond_false]
   have e : Int.tdiv k 256 = k / 256 := Int.tdiv_eq_ediv_of_nonneg h0
   have e2 : Int.tmod k 256 = k % 256 := Int.tmod_eq_emod_of_nonneg h0
   rw [gd_pos (by decide), e, e2, gd_pos (okI64 (by omega) (by omega)), gd_pos (by decide), ofInt_mod]
theorem rEl_is (n : Nat) (m : UInt8) {b : List UInt8} (h : b.length ≤ 1000000) : rEl n m b = some (hdF m (b.length : Int) ++ b) := by
 unfold rEl
 have := hdF_len m (b.length : Int)
 rw [rHead_is n (by omega) (by omega), Option.bind_some, gd_pos (by unfold rmB; omega)]
end Go.Sx
end
section
namespace Go.Sx
open Go Go.RowKit Go.Ch Go.Proofs.YtiojofjllkhbhaaGreat
theorem bodyOf_len {l : List UInt32} (h : oidOk l = true) : (bodyOf l).length ≤ 102 := by
 have := oidOk_len h
 have h1 := grp_len (40 * l.getD 0 0 + l.getD 1 0)
 have h2 := grps_len (l.drop 2)
 unfold bodyOf
 rw [List.length_append]; rw [List.length_drop] at h2; omega
def mkOk (m : UInt8) : Bool := m == 12 || m == 19
theorem mkOk_or {m : UInt8} (h : mkOk m = true) : m = 12 ∨ m = 19 := by unfold mkOk at h; simpa using h
def atOk (x : AttrT) : Bool := mkOk x.2.1 && (decide (1 ≤ x.2.2.length) && (decide (x.2.2.length ≤ 64) && (oidOk x.1 && txOk x.2.1 x.2.2)))
def elF (m : UInt8) (b : List UInt8) : List UInt8 := hdF m (b.length : Int) ++ b
theorem elF_len (m : UInt8) (b : List UInt8) : (elF m b).length ≤ 4 + b.length := by
 have := hdF_len m (b.length : Int)
 unfold elF; rw [List.length_append]; omega
def atF (x : AttrT) : List UInt8 := elF 48 (elF 6 (bodyOf x.1) ++ elF x.2.1 x.2.2)
theorem atOk_parts {x : AttrT} (h : atOk x = true) : mkOk x.2.1 = true ∧ 1 ≤ x.2.2.length ∧ x.2.2.length ≤ 64 ∧ oidOk x.1 = true ∧ txOk x.2.1 x.2.2 = true := by
 unfold atOk at h; simpa using h
theorem atF_len {x : AttrT} (h : atOk x = true) : (atF x).length ≤ 200 := by
 obtain ⟨_, _, h3, h4, _⟩ := atOk_parts h
 have e1 := elF_len 48 (elF 6 (bodyOf x.1) ++ elF x.2.1 x.2.2)
 have e2 := elF_len 6 (bodyOf x.1)
 have e3 := elF_len x.2.1 x.2.2
 have e4 := bodyOf_len h4
 unfold atF; rw [List.length_append] at e1; omega
theorem rEl_el (n : Nat) (m : UInt8) {b : List UInt8} (h : b.length ≤ 1000000) : rEl n m b = some (elF m b) := rEl_is n m h
theorem tisW_12 (n : Nat) {m : UInt8} (hm : m = 6 ∨ m = 12 ∨ m = 19) : tisW n m = some false ∧ (m % 32 != 31) = true := by rcases hm with rfl | rfl | rfl <;> exact ⟨rfl, by decide⟩
theorem wPut2_is {n : Nat} {m : UInt8} (hm : m = 6 ∨ m = 12 ∨ m = 19) {a b : List UInt8} (ha : a.length ≤ 100000) (hb : b.length ≤ 60000) : wPut2 n 0 [] 48 a m b = some (a ++ elF m b) := by
 have := hdF_len m (b.length : Int)
 unfold wPut2 wadd2
 rw [tvalid_is, Option.bind_some, (tisW_12 n hm).2, ite_f (by rfl), (tisW_12 n hm).1, Option.bind_some, ite_f (by rfl), tHead_is n (tisW_12 n hm).2 (by omega) (by omega), Option.bind_some, ite_f (by rfl)]
 rw [gd_pos (by decide), gd_pos (by decide), gd_pos (by decide), gd_pos (by decide), gd_pos (by unfold rmB; simp; omega), gd_pos (by unfold rmB; simp; omega), gd_pos (by decide), Option.bind_some]
 unfold elF; rw [List.append_assoc]
theorem wClose2_is {n : Nat} {b : List UInt8} (hb : b.length ≤ 60000) : wClose2 n 0 [] 48 b = some (elF 48 b) := by
 have := hdF_len 48 (b.length : Int)
 unfold wClose2 wadd1 elF
 rw [gd_pos (by decide), gd_pos (by decide), gd_pos (by decide), gd_pos (by decide), gd_pos (by decide), gd_pos (by decide), gd_pos (by decide), tHead_is n (by decide) (by omega) (by omega), Option.bind_some, ite_f (by rfl)]
 rw [gd_pos (by decide), gd_pos (by decide), gd_pos (by decide), gd_pos (by decide), gd_pos (by unfold rmB; simp; omega), gd_pos (by unfold rmB; simp; omega), gd_pos (by decide), Option.bind_some, List.nil_append]
theorem wAttr {n : Nat} {o t : List UInt8} {m : UInt8} (hm : m = 12 ∨ m = 19) (ho : o.length ≤ 1000) (ht : t.length ≤ 1000) :
  (wNew n).bind (fun _ => (wOpen1 n 0 [] 48).bind fun _ => (wPut2 n 0 [] 48 [] 6 o).bind fun r51 => (wPut2 n 0 [] 48 r51 m t).bind fun r57 => (wClose2 n 0 [] 48 r57).bind fun r59 => (wBytes1 n 0 r59).bind fun _ => some (r59, (none : Option Int))) = some (elF 48 (elF 6 o ++ elF m t), none) := by
 have h1 := elF_len 6 o
 have h2 := elF_len m t
 have h3 := elF_len 48 (elF 6 o ++ elF m t)
 rw [List.length_append] at h3
 have ew : wOpen1 n 0 [] 48 = some () := by
  unfold wOpen1
  rw [tvalid_is, Option.bind_some, ite_f (by decide), show tisW n 48 = some true from rfl, Option.bind_some, ite_f (by rfl), gd_pos (by unfold rmB; omega)]
 have eb : wBytes1 n 0 (elF 48 (elF 6 o ++ elF m t)) = some () := by
  unfold wBytes1; rw [gd_pos (by decide), gd_pos (by decide), gd_pos (by decide), gd_pos (by omega)]
 rw [show wNew n = some () from rfl, Option.bind_some, ew, Option.bind_some, wPut2_is (.inl rfl) (by simp) (by omega), Option.bind_some, List.nil_append, wPut2_is (.inr hm) (by omega) (by omega), Option.bind_some, wClose2_is (by simp; omega), Option.bind_some, eb, Option.bind_some]
theorem nAttr_is {n : Nat} (hn : 3000 ≤ n) {x : AttrT} : nAttr n x.1 x.2.1 x.2.2 = some (if atOk x = true then (atF x, none) else ([], some 1)) := by
 obtain ⟨ty, mk, tx⟩ := x
 simp only
 have rest : oidOk ty = true → mkOk mk = true → (bif (decide (((tx.length : Nat) : Int) < (1 : Int))) then some (([], some 1) : List UInt8 × Option Int) else
    bif (decide ((64 : Int) < ((tx.length : Nat) : Int))) then some ([], (some 1)) else
     (pText n mk tx).bind fun r42 =>
     bif (!((r42).isNone)) then some ([], (some 1)) else
      (wNew n).bind fun _ => (wOpen1 n 0 [] 48).bind fun _ => (wPut2 n 0 [] 48 [] 6 (bodyOf ty)).bind fun r51 => (wPut2 n 0 [] 48 r51 mk tx).bind fun r57 => (wClose2 n 0 [] 48 r57).bind fun r59 => (wBytes1 n 0 r59).bind fun _ => some (r59, none)) = some (if atOk (ty, mk, tx) = true then (atF (ty, mk, tx), none) else ([], some 1)) := by
  intro ho hm
  have e : atOk (ty, mk, tx) = (decide (1 ≤ tx.length) && (decide (tx.length ≤ 64) && txOk mk tx)) := by unfold atOk; simp only [ho, hm, Bool.true_and]
  rw [e]
  by_cases h1 : tx.length < 1
  ·rw [ite_t (decide_eq_true (by omega)), decide_eq_false (show ¬ 1 ≤ tx.length by omega)]; rfl
  ·rw [ite_f (decide_eq_false (by omega)), decide_eq_true (show 1 ≤ tx.length by omega), Bool.true_and]
   by_cases h2 : 64 < tx.length
   ·rw [ite_t (decide_eq_true (by omega)), decide_eq_false (show ¬ tx.length ≤ 64 by omega)]; rfl
   ·rw [ite_f (decide_eq_false (by omega)), decide_eq_true (show tx.length ≤ 64 by omega), Bool.true_and, pText_is (mkOk_or hm) tx (by omega), Option.bind_some]
    cases txOk mk tx with
    | false => rfl
    | true =>
     have := bodyOf_len ho
     exact wAttr (mkOk_or hm) (by omega) (by omega)
 unfold nAttr
 rw [pOid_is (by omega), Option.bind_some]
 cases ho : oidOk ty with
 | false =>
  have e : atOk (ty, mk, tx) = false := by unfold atOk; simp [ho]
  rw [e]; rfl
 | true =>
  rw [if_pos rfl]
  rw [show (!((((bodyOf ty, none) : List UInt8 × Option Int).2).isNone)) = false from rfl]
  simp only [cond_false]
  by_cases hc : mk = 12
  ·rw [ite_f (by rw [hc]; decide)]
   exact rest ho (by rw [hc]; rfl)
  ·rw [ite_t (by simpa using hc)]
   by_cases hd : mk = 19
   ·rw [ite_f (by rw [hd]; decide)]
    exact rest ho (by rw [hd]; rfl)
   ·rw [ite_t (by simpa using hd)]
    have e : atOk (ty, mk, tx) = false := by unfold atOk mkOk; simp [hc, hd]
    rw [e]; rfl
theorem rAttr_is {n : Nat} (hn : 3000 ≤ n) {x : AttrT} : rAttr n x.1 x.2.1 x.2.2 = some (if atOk x = true then (atF x, true) else ([], false)) := by
 obtain ⟨ty, mk, tx⟩ := x
 simp only
 have rest : mkOk mk = true → (bif (decide (((tx.length : Nat) : Int) < (1 : Int))) then some (([], false) : List UInt8 × Bool) else
    bif (decide ((64 : Int) < ((tx.length : Nat) : Int))) then some ([], false) else
     (rOid n ty).bind fun r27 =>
     bif (!r27) then some ([], false) else
      (rText n mk tx).bind fun r34 =>
      bif (!r34) then some ([], false) else
       (rOidBody n ty).bind fun r39 =>
       (rEl n 6 r39).bind fun r40 =>
       (rEl n mk tx).bind fun r45 =>
       gd (rmB (r40.length + r45.length) 1) <|
       (rEl n 48 (r40 ++ r45)).bind fun r48 =>
       some (r48, true)) = some (if atOk (ty, mk, tx) = true then (atF (ty, mk, tx), true) else ([], false)) := by
  intro hm
  have e : atOk (ty, mk, tx) = (decide (1 ≤ tx.length) && (decide (tx.length ≤ 64) && (oidOk ty && txOk mk tx))) := by unfold atOk; simp only [hm, Bool.true_and]
  rw [e]
  by_cases h1 : tx.length < 1
  ·rw [ite_t (decide_eq_true (by omega)), decide_eq_false (show ¬ 1 ≤ tx.length by omega)]; rfl
  ·rw [ite_f (decide_eq_false (by omega)), decide_eq_true (show 1 ≤ tx.length by omega), Bool.true_and]
   by_cases h2 : 64 < tx.length
   ·rw [ite_t (decide_eq_true (by omega)), decide_eq_false (show ¬ tx.length ≤ 64 by omega)]; rfl
   ·rw [ite_f (decide_eq_false (by omega)), decide_eq_true (show tx.length ≤ 64 by omega), Bool.true_and, rOid_is, Option.bind_some]
    cases ho : oidOk ty with
    | false => rfl
    | true =>
     rw [ite_f (by rfl), rText_is (mkOk_or hm) tx (by omega) hn, Option.bind_some, Bool.true_and]
     cases txOk mk tx with
     | false => rfl
     | true =>
      have hl := oidOk_len ho
      have h3 := bodyOf_len ho
      have e1 := elF_len 6 (bodyOf ty)
      have e2 := elF_len mk tx
      rw [ite_f (by rfl), rOidBody_is (by omega) hl.1 (by omega), Option.bind_some, rEl_el n 6 (by omega), Option.bind_some, rEl_el n mk (by omega), Option.bind_some, gd_pos (by unfold rmB; omega), rEl_el n 48 (by simp; omega), Option.bind_some]
      rfl
 unfold rAttr
 by_cases hc : mk = 12
 ·rw [ite_f (by rw [hc]; decide)]
  exact rest (by rw [hc]; rfl)
 ·rw [ite_t (by simpa using hc)]
  by_cases hd : mk = 19
  ·rw [ite_f (by rw [hd]; decide)]
   exact rest (by rw [hd]; rfl)
  ·rw [ite_t (by simpa using hd)]
   have e : atOk (ty, mk, tx) = false := by unfold atOk mkOk; simp [hc, hd]
   rw [e]; rfl
theorem cmp_less : ∀ a b : List UInt8, decide ((0 : Int) ≤ Lib.compareBytes a b) = !Op.bytesLess a b
 | [], [] => rfl
 | [], _ :: _ => by simp [Lib.compareBytes, Op.bytesLess]
 | _ :: _, [] => by simp [Lib.compareBytes, Op.bytesLess]
 | x :: a, y :: b => by
  have ih := cmp_less a b
  unfold Lib.compareBytes Op.bytesLess
  by_cases h : x < y
  ·simp [h]
  ·by_cases h2 : y < x
   ·have : x ≠ y := fun e => UInt8.lt_irrefl y (by rw [e] at h2; exact h2)
    simp [h, h2, this]
   ·have : x = y := by
     have h3 := UInt8.not_lt.1 h
     have h4 := UInt8.not_lt.1 h2
     exact UInt8.le_antisymm h4 h3
    simp [h, h2, this, ih]
def stpF : List AttrT → Bool → List UInt8 → Option (List UInt8)
 | [], _, _ => some []
 | x :: t, fst, last => if (atOk x && (fst || Op.bytesLess last (atF x))) = true then (stpF t false (atF x)).map (atF x ++ ·) else none
theorem stpF_len : ∀ (l : List AttrT) (f : Bool) (last y : List UInt8), stpF l f last = some y → y.length ≤ 200 * l.length
 | [], _, _, y, h => by injection h with h; rw [← h]; simp
 | x :: t, f, last, y, h => by
  rw [stpF] at h
  split at h
  ·rename_i hc
   obtain ⟨z, hz, rfl⟩ := Option.map_eq_some_iff.1 h
   have h1 := stpF_len t false (atF x) z hz
   have h2 := atF_len (x := x) (by simp at hc; exact hc.1)
   rw [List.length_append, List.length_cons]; omega
  ·cases h
abbrev nmT := List (List AttrT)
def nKa (n : Nat) (l4 : List UInt8) (j : Int) (K : List UInt8 → Int → Option (List UInt8 × Option Int)) : Option (List UInt8) → Option (List UInt8 × Option Int)
 | none => some ([], some 1)
 | some y => K (l4 ++ elF 49 y) (j + 1)
def rKa (l4 : List UInt8) (j : Int) (K : List UInt8 → Int → Option (List UInt8 × Bool)) : Option (List UInt8) → Option (List UInt8 × Bool)
 | none => some ([], false)
 | some y => K (l4 ++ elF 49 y) (j + 1)
theorem nw_l2 {n : Nat} (hn : 3000 ≤ n) {a : nmT} {j : Nat} (hj : j < a.length) (hj8 : a.length ≤ 8) (l4 : List UInt8) (hl4 : l4.length ≤ 100000) (h4 : (a.getD j []).length ≤ 4) (K : List UInt8 → Int → Option (List UInt8 × Option Int)) :
  ∀ (fu i : Nat) (acc last : List UInt8), (a.getD j []).length < i + fu → i ≤ (a.getD j []).length → acc.length ≤ 200 * i →
   nWrite_l2 n a l4 (j : Int) K fu acc last (i : Int) = nKa n l4 (j : Int) K ((stpF ((a.getD j []).drop i) (decide (i = 0)) last).map (acc ++ ·))
 | 0, i, acc, last, h, h1, h2 => by omega
 | fu + 1, i, acc, last, h, h1, h2 => by
  rw [nWrite_l2]
  simp only [Int.toNat_natCast]
  by_cases hi : i < (a.getD j []).length
  ·rw [ite_t (decide_eq_true (by omega)), gd_pos (by omega), gd_pos (by omega), nAttr_is hn, Option.bind_some, drop_at (z := ([], (0, []))) hi, stpF]
   generalize hx : (a.getD j []).getD i ([], (0, [])) = x
   cases ho : atOk x with
   | false => simp [nKa]
   | true =>
    have hal := atF_len ho
    simp only [if_pos, Bool.true_and]
    rw [ite_f (by rfl)]
    have go : nWrite_l2 n a l4 (j : Int) K fu (acc ++ atF x) (atF x) ((i : Int) + 1) = nKa n l4 (j : Int) K ((stpF ((a.getD j []).drop (i + 1)) false (atF x)).map ((acc ++ atF x) ++ ·)) := by
     have := nw_l2 hn hj hj8 l4 hl4 h4 K fu (i + 1) (acc ++ atF x) (atF x) (by omega) hi (by rw [List.length_append]; omega)
     rw [show decide (i + 1 = 0) = false from decide_eq_false (by omega)] at this
     exact this
    have e2 : ∀ o : Option (List UInt8), (o.map (atF x ++ ·)).map (acc ++ ·) = o.map ((acc ++ atF x) ++ ·) := fun o => by cases o <;> simp
    by_cases h0 : i = 0
    ·rw [ite_f (decide_eq_false (by omega)), gd_pos (by unfold rmB; omega), gd_pos (okI64 (by omega) (by omega)), go, decide_eq_true h0, Bool.true_or, if_pos rfl, e2]
    ·rw [ite_t (decide_eq_true (by omega)), cmp_less, decide_eq_false h0, Bool.false_or]
     cases Op.bytesLess last (atF x) with
     | false => simp [nKa]
     | true => rw [ite_f (by rfl), gd_pos (by unfold rmB; omega), gd_pos (okI64 (by omega) (by omega)), go, if_pos rfl, e2]
  ·rw [ite_f (decide_eq_false (by omega)), tHead_is n (by decide) (by omega) (by omega), Option.bind_some, ite_f (by rfl), List.drop_of_length_le (by omega)]
   have := hdF_len 49 (acc.length : Int)
   rw [gd_pos (by unfold rmB; simp only; omega), gd_pos (by unfold rmB; simp only [List.length_append]; omega), gd_pos (okI64 (by omega) (by omega))]
   simp [stpF, nKa, elF]
theorem rw_l2 {n : Nat} (hn : 3000 ≤ n) {a : nmT} {j : Nat} (hj : j < a.length) (hj8 : a.length ≤ 8) (l4 : List UInt8) (hl4 : l4.length ≤ 100000) (h4 : (a.getD j []).length ≤ 4) (K : List UInt8 → Int → Option (List UInt8 × Bool)) :
  ∀ (fu i : Nat) (acc last : List UInt8), (a.getD j []).length < i + fu → i ≤ (a.getD j []).length → acc.length ≤ 200 * i →
   r9Write_l2 n a l4 (j : Int) K fu acc last (i : Int) = rKa l4 (j : Int) K ((stpF ((a.getD j []).drop i) (decide (i = 0)) last).map (acc ++ ·))
 | 0, i, acc, last, h, h1, h2 => by omega
 | fu + 1, i, acc, last, h, h1, h2 => by
  rw [r9Write_l2]
  simp only [Int.toNat_natCast]
  rw [gd_pos (by omega), gd_pos (by omega)]
  by_cases hi : i < (a.getD j []).length
  ·rw [ite_t (decide_eq_true (by omega)), gd_pos (by omega), gd_pos (by omega), gd_pos (by omega), gd_pos (by omega), rAttr_is hn, Option.bind_some, drop_at (z := ([], (0, []))) hi, stpF]
   generalize hx : (a.getD j []).getD i ([], (0, [])) = x
   cases ho : atOk x with
   | false => simp [rKa]
   | true =>
    have hal := atF_len ho
    simp only [if_pos, Bool.true_and]
    rw [ite_f (by rfl)]
    have go : r9Write_l2 n a l4 (j : Int) K fu (acc ++ atF x) (atF x) ((i : Int) + 1) = rKa l4 (j : Int) K ((stpF ((a.getD j []).drop (i + 1)) false (atF x)).map ((acc ++ atF x) ++ ·)) := by
     have := rw_l2 hn hj hj8 l4 hl4 h4 K fu (i + 1) (acc ++ atF x) (atF x) (by omega) hi (by rw [List.length_append]; omega)
     rw [show decide (i + 1 = 0) = false from decide_eq_false (by omega)] at this
     exact this
    have e2 : ∀ o : Option (List UInt8), (o.map (atF x ++ ·)).map (acc ++ ·) = o.map ((acc ++ atF x) ++ ·) := fun o => by cases o <;> simp
    by_cases h0 : i = 0
    ·rw [ite_f (decide_eq_false (by omega)), gd_pos (by unfold rmB; omega), gd_pos (okI64 (by omega) (by omega)), go, decide_eq_true h0, Bool.true_or, if_pos rfl, e2]
    ·rw [ite_t (decide_eq_true (by omega)), decide_eq_false h0, Bool.false_or]
     cases Op.bytesLess last (atF x) with
     | false => simp [rKa]
     | true => rw [ite_f (by rfl), gd_pos (by unfold rmB; omega), gd_pos (okI64 (by omega) (by omega)), go, if_pos rfl, e2]
  ·have := elF_len 49 acc
   rw [ite_f (decide_eq_false (by omega)), rEl_el n 49 (by omega), Option.bind_some, List.drop_of_length_le (by omega), gd_pos (by unfold rmB; omega), gd_pos (okI64 (by omega) (by omega))]
   simp [stpF, rKa]
def nm : nmT → Option (List UInt8)
 | [] => some []
 | s :: t => if 1 ≤ s.length ∧ s.length ≤ 4 then (match stpF s true [] with | none => none | some y => (nm t).map (elF 49 y ++ ·)) else none
theorem nm_len : ∀ (a : nmT) (y : List UInt8), nm a = some y → y.length ≤ 804 * a.length
 | [], y, h => by injection h with h; rw [← h]; simp
 | s :: t, y, h => by
  rw [nm] at h
  split at h
  ·rename_i hc
   split at h
   ·cases h
   ·rename_i z hz
    obtain ⟨q, hq, rfl⟩ := Option.map_eq_some_iff.1 h
    have h1 := nm_len t q hq
    have h2 := stpF_len s true [] z hz
    have h3 := elF_len 49 z
    rw [List.length_append, List.length_cons]; omega
  ·cases h
def nmA (a : nmT) : Option (List UInt8) := if a.length ≤ 8 then (nm a).map (elF 48 ·) else none
theorem nw_l1 {n : Nat} (hn : 3000 ≤ n) {a : nmT} (h8 : a.length ≤ 8) : ∀ (fu j : Nat) (acc : List UInt8), a.length < j + fu → j ≤ a.length → acc.length ≤ 804 * j →
   nWrite_l1 n a fu acc (j : Int) = some (match (nm (a.drop j)).map (acc ++ ·) with | none => ([], some 1) | some y => (elF 48 y, none))
 | 0, j, acc, h, h1, h2 => by omega
 | fu + 1, j, acc, h, h1, h2 => by
  rw [nWrite_l1]
  simp only [Int.toNat_natCast]
  by_cases hj : j < a.length
  ·rw [ite_t (decide_eq_true (by omega)), gd_pos (by omega), gd_pos (by omega), drop_at (z := []) hj, nm]
   by_cases c1 : (a.getD j []).length < 1
   ·rw [ite_t (decide_eq_true (by omega)), if_neg (by omega)]; rfl
   ·rw [ite_f (decide_eq_false (by omega))]
    by_cases c2 : 4 < (a.getD j []).length
    ·rw [ite_t (decide_eq_true (by omega)), if_neg (by omega)]; rfl
    ·rw [ite_f (decide_eq_false (by omega)), if_pos ⟨by omega, by omega⟩]
     have e := nw_l2 hn hj h8 acc (by omega) (by omega) (nWrite_l1 n a fu) n 0 [] [] (by omega) (by omega) (by simp)
     rw [show ((0 : Nat) : Int) = 0 from rfl] at e
     rw [e, List.drop_zero, show decide (0 = 0) = true from rfl]
     cases hs : stpF (a.getD j []) true [] with
     | none => simp [nKa]
     | some y =>
      have l1 := stpF_len _ _ _ _ hs
      have l2 := elF_len 49 y
      have := nw_l1 hn h8 fu (j + 1) (acc ++ elF 49 y) (by omega) hj (by rw [List.length_append]; omega)
      simp only [Option.map_some, nKa, List.nil_append]
      rw [show ((j : Int) + 1) = ((j + 1 : Nat) : Int) by omega, this]
      cases nm (a.drop (j + 1)) <;> simp
  ·have := hdF_len 48 (acc.length : Int)
   rw [ite_f (decide_eq_false (by omega)), tHead_is n (by decide) (by omega) (by omega), Option.bind_some, ite_f (by rfl), List.drop_of_length_le (by omega), gd_pos (by unfold rmB; simp only; omega)]
   simp [nm, elF]
theorem rw_l1 {n : Nat} (hn : 3000 ≤ n) {a : nmT} (h8 : a.length ≤ 8) : ∀ (fu j : Nat) (acc : List UInt8), a.length < j + fu → j ≤ a.length → acc.length ≤ 804 * j →
   r9Write_l1 n a fu acc (j : Int) = some (match (nm (a.drop j)).map (acc ++ ·) with | none => ([], false) | some y => (elF 48 y, true))
 | 0, j, acc, h, h1, h2 => by omega
 | fu + 1, j, acc, h, h1, h2 => by
  rw [r9Write_l1]
  simp only [Int.toNat_natCast]
  by_cases hj : j < a.length
  ·rw [ite_t (decide_eq_true (by omega)), gd_pos (by omega), gd_pos (by omega), drop_at (z := []) hj, nm]
   by_cases c1 : (a.getD j []).length < 1
   ·rw [ite_t (decide_eq_true (by omega)), if_neg (by omega)]; rfl
   ·rw [ite_f (decide_eq_false (by omega)), gd_pos (by omega), gd_pos (by omega)]
    by_cases c2 : 4 < (a.getD j []).length
    ·rw [ite_t (decide_eq_true (by omega)), if_neg (by omega)]; rfl
    ·rw [ite_f (decide_eq_false (by omega)), if_pos ⟨by omega, by omega⟩]
     have e := rw_l2 hn hj h8 acc (by omega) (by omega) (r9Write_l1 n a fu) n 0 [] [] (by omega) (by omega) (by simp)
     rw [show ((0 : Nat) : Int) = 0 from rfl] at e
     rw [e, List.drop_zero, show decide (0 = 0) = true from rfl]
     cases hs : stpF (a.getD j []) true [] with
     | none => simp [rKa]
     | some y =>
      have l1 := stpF_len _ _ _ _ hs
      have l2 := elF_len 49 y
      have := rw_l1 hn h8 fu (j + 1) (acc ++ elF 49 y) (by omega) hj (by rw [List.length_append]; omega)
      simp only [Option.map_some, rKa, List.nil_append]
      rw [show ((j : Int) + 1) = ((j + 1 : Nat) : Int) by omega, this]
      cases nm (a.drop (j + 1)) <;> simp
  ·rw [ite_f (decide_eq_false (by omega)), rEl_el n 48 (by omega), Option.bind_some, List.drop_of_length_le (by omega)]
   simp [nm]
theorem nWrite_is {n : Nat} (hn : 3000 ≤ n) {a : nmT} : nWrite n a = some (match nmA a with | none => ([], some 1) | some y => (y, none)) := by
 unfold nWrite nmA
 by_cases h8 : a.length ≤ 8
 ·rw [ite_f (decide_eq_false (by omega)), if_pos h8, show (0 : Int) = ((0 : Nat) : Int) from rfl, nw_l1 hn h8 n 0 [] (by omega) (by omega) (by simp), List.drop_zero]
  cases nm a <;> simp
 ·rw [ite_t (decide_eq_true (by omega)), if_neg h8]
theorem r9Write_is {n : Nat} (hn : 3000 ≤ n) {a : nmT} (hl : a.length ≤ 1000000) : r9Write n a = some (match nmA a with | none => ([], false) | some y => (y, true)) := by
 unfold r9Write nmA
 by_cases h8 : a.length ≤ 8
 ·rw [ite_f (decide_eq_false (by omega)), if_pos h8, show (0 : Int) = ((0 : Nat) : Int) from rfl, rw_l1 hn h8 n 0 [] (by omega) (by omega) (by simp), List.drop_zero]
  cases nm a <;> simp
 ·rw [ite_t (decide_eq_true (by omega)), if_neg h8]
end Go.Sx
end
section
namespace Go.Sx
section
variable {α : Type} (b : Nat) (f : α → Nat) (g : Nat → α)
def vl (l : List α) : Nat := l.foldr (fun x r => f x + b * r) 0
theorem vl_nil : vl b f [] = 0 := rfl
theorem vl_cons (x : α) (l : List α) : vl b f (x :: l) = f x + b * vl b f l := rfl
theorem vl_app (l m : List α) : vl b f (l ++ m) = vl b f l + b ^ l.length * vl b f m := by
 induction l with
 | nil => simp [vl_nil]
 | cons x l ih => simp only [List.cons_append, vl_cons, ih, List.length_cons, Nat.pow_succ]; grind
theorem vl_split (l : List α) (i : Nat) : vl b f l = vl b f (l.take i) + b ^ i * vl b f (l.drop i) := by
 induction i generalizing l with
 | zero => simp [vl_nil]
 | succ i ih =>
  cases l with
  | nil => simp [vl_nil]
  | cons x l => simp only [List.take_succ_cons, List.drop_succ_cons, vl_cons, Nat.pow_succ]; have := ih l; grind
theorem vl_take {z : α} (l : List α) (i : Nat) (h : i < l.length) : vl b f (l.take (i + 1)) = vl b f (l.take i) + b ^ i * f (l.getD i z) := by
 rw [List.take_succ_eq_append_getElem h, vl_app, List.getD_eq_getElem?_getD, List.getElem?_eq_getElem h]
 simp [vl_cons, vl_nil, Nat.min_eq_left (Nat.le_of_lt h)]
theorem vl_drop {z : α} (l : List α) (i : Nat) (h : i < l.length) : vl b f (l.drop i) = f (l.getD i z) + b * vl b f (l.drop (i + 1)) := by
 rw [List.drop_eq_getElem_cons h, vl_cons, List.getD_eq_getElem?_getD, List.getElem?_eq_getElem h]; rfl
theorem vl_set {z : α} (l : List α) (i : Nat) (x : α) (h : i < l.length) : vl b f (l.set i x) + b ^ i * f (l.getD i z) = vl b f l + b ^ i * f x := by
 induction l generalizing i with
 | nil => simp at h
 | cons y l ih =>
  cases i with
  | zero => simp [vl_cons]; omega
  | succ i =>
   have := ih i (by simpa using h)
   simp only [List.set_cons_succ, vl_cons, Nat.pow_succ, List.getD_cons_succ]; grind
theorem vl_lt (l : List α) (h : ∀ x ∈ l, f x < b) : vl b f l < b ^ l.length := by
 induction l with
 | nil => simp [vl_nil]
 | cons x l ih =>
  have h1 := ih (fun y hy => h y (.tail _ hy))
  have h2 := h x (.head _)
  rw [vl_cons, List.length_cons, Nat.pow_succ]
  have : b * (vl b f l + 1) ≤ b * b ^ l.length := Nat.mul_le_mul_left b h1
  grind
theorem vl_rep {z : α} (hz : f z = 0) (n : Nat) : vl b f (List.replicate n z) = 0 := by
 induction n with
 | zero => rfl
 | succ n ih => rw [List.replicate_succ, vl_cons, ih, hz]; rfl
def dg (v : Nat) : List α := if h : 1 < b ∧ v ≠ 0 then g (v % b) :: dg (v / b) else []
termination_by v
decreasing_by exact Nat.div_lt_self (by omega) h.1
theorem dg_zero : dg b g 0 = [] := by rw [dg]; simp
theorem dg_pos (hb : 1 < b) {v : Nat} (h : v ≠ 0) : dg b g v = g (v % b) :: dg b g (v / b) := by rw [dg, dif_pos ⟨hb, h⟩]
theorem vl_dg (hb : 1 < b) (hfg : ∀ x < b, f (g x) = x) (v : Nat) : vl b f (dg b g v) = v := by
 induction v using Nat.strongRecOn with
 | _ v ih =>
  by_cases h : v = 0
  ·subst h; rw [dg_zero]; rfl
  ·rw [dg_pos b g hb h, vl_cons, ih _ (Nat.div_lt_self (by omega) hb), hfg _ (Nat.mod_lt _ (by omega)), Nat.mod_add_div]
theorem dg_len (hb : 1 < b) (v k : Nat) : (dg b g v).length ≤ k ↔ v < b ^ k := by
 induction k generalizing v with
 | zero =>
  by_cases h : v = 0
  ·subst h; simp [dg_zero]
  ·rw [dg_pos b g hb h]; simp; omega
 | succ k ih =>
  by_cases h : v = 0
  ·subst h; simp [dg_zero]; exact Nat.pow_pos (by omega)
  ·rw [dg_pos b g hb h, List.length_cons, Nat.add_le_add_iff_right, ih, Nat.pow_succ, Nat.div_lt_iff_lt_mul (by omega)]
theorem dg_mem (hb : 1 < b) {P : α → Prop} (hP : ∀ x < b, P (g x)) (v : Nat) : ∀ x ∈ dg b g v, P x := by
 induction v using Nat.strongRecOn with
 | _ v ih =>
  by_cases h : v = 0
  ·subst h; rw [dg_zero]; intro x hx; cases hx
  ·rw [dg_pos b g hb h]
   intro x hx
   cases hx with
   | head => exact hP _ (Nat.mod_lt _ (by omega))
   | tail _ hx => exact ih _ (Nat.div_lt_self (by omega) hb) x hx
theorem dg_vl (hb : 1 < b) (l : List α) (hl : ∀ x ∈ l, f x < b ∧ g (f x) = x) (h : ∀ h : l ≠ [], f (l.getLast h) ≠ 0) : dg b g (vl b f l) = l := by
 induction l with
 | nil => rw [vl_nil, dg_zero]
 | cons x l ih =>
  obtain ⟨h1, h2⟩ := hl x (.head _)
  have ih := ih (fun y hy => hl y (.tail _ hy)) (fun hn => by have := h (by simp); rwa [List.getLast_cons hn] at this)
  have hne : vl b f (x :: l) ≠ 0 := by
   rw [vl_cons]
   cases l with
   | nil => have := h (by simp); simp at this; omega
   | cons y l =>
    intro h0
    have : vl b f (y :: l) = 0 := by
     cases Nat.eq_zero_of_add_eq_zero_left h0 |> Nat.mul_eq_zero.1 with
     | inl h => omega
     | inr h => exact h
    rw [this, dg_zero] at ih
    cases ih
  rw [dg_pos b g hb hne, vl_cons, Nat.add_mul_mod_self_left, Nat.mod_eq_of_lt h1, h2, Nat.add_mul_div_left _ _ (by omega), Nat.div_eq_of_lt h1, Nat.zero_add, ih]
theorem dg_get (hb : 1 < b) {z : α} (hfg : ∀ x < b, f (g x) = x) (hz : f z = 0) (v i : Nat) : f ((dg b g v).getD i z) = v / b ^ i % b := by
 induction i generalizing v with
 | zero =>
  by_cases h : v = 0
  ·subst h; simp [dg_zero, hz]
  ·rw [dg_pos b g hb h]; simp; exact hfg _ (Nat.mod_lt _ (by omega))
 | succ i ih =>
  by_cases h : v = 0
  ·subst h; simp [dg_zero, hz]
  ·rw [dg_pos b g hb h, List.getD_cons_succ, ih, Nat.pow_succ, Nat.div_div_eq_div_mul, Nat.mul_comm]
end
def nV (l : List UInt32) : Nat := vl 4294967296 UInt32.toNat l
def nD (v : Nat) : List UInt32 := dg 4294967296 UInt32.ofNat v
def nZ (l : List Int) : Nat := vl 65536 Int.toNat l
def nE (v : Nat) : List Int := dg 65536 Int.ofNat v
theorem u32_lt (x : UInt32) : x.toNat < 4294967296 := x.toNat_lt
theorem u32_of (x : Nat) (h : x < 4294967296) : (UInt32.ofNat x).toNat = x := by simp; omega
theorem V_D (v : Nat) : nV (nD v) = v := vl_dg _ _ _ (by decide) u32_of v
theorem Z_E (v : Nat) : nZ (nE v) = v := vl_dg _ _ _ (by decide) (fun _ _ => rfl) v
theorem D_len (v k : Nat) : (nD v).length ≤ k ↔ v < 4294967296 ^ k := dg_len _ _ (by decide) v k
theorem E_len (v k : Nat) : (nE v).length ≤ k ↔ v < 65536 ^ k := dg_len _ _ (by decide) v k
theorem D_zero : nD 0 = [] := dg_zero _ _
theorem E_zero : nE 0 = [] := dg_zero _ _
theorem V_lt (l : List UInt32) : nV l < 4294967296 ^ l.length := vl_lt _ _ _ fun x _ => u32_lt x
def Dz (l : List Int) : Prop := ∀ x ∈ l, 0 ≤ x ∧ x < 65536
theorem E_dz (v : Nat) : Dz (nE v) := dg_mem _ _ (by decide) (fun x _ => ⟨Int.natCast_nonneg x, by show (x : Int) < 65536; omega⟩) v
theorem Z_lt {l : List Int} (h : Dz l) : nZ l < 65536 ^ l.length := vl_lt _ _ _ fun x hx => by have := h x hx; omega
theorem D_V {l : List UInt32} (h : ∀ h : l ≠ [], l.getLast h ≠ 0) : nD (nV l) = l :=
 dg_vl _ _ _ (by decide) l (fun x _ => ⟨u32_lt x, by simp⟩) fun hn h0 => h hn (UInt32.toNat_inj.1 h0)
theorem E_Z {l : List Int} (hl : Dz l) (h : ∀ h : l ≠ [], l.getLast h ≠ 0) : nE (nZ l) = l :=
 dg_vl _ _ _ (by decide) l (fun x hx => by have := hl x hx; exact ⟨by omega, by show ((x.toNat : Nat) : Int) = x; omega⟩) fun hn h0 => h hn (by have := hl _ (List.getLast_mem hn); omega)
theorem D_get (v i : Nat) : ((nD v).getD i 0).toNat = v / 4294967296 ^ i % 4294967296 := dg_get _ _ _ (by decide) u32_of rfl v i
theorem E_get (v i : Nat) : (nE v).getD i 0 = ((v / 65536 ^ i % 65536 : Nat) : Int) := by
 have h := dg_get 65536 Int.toNat Int.ofNat (by decide) (z := 0) (fun _ _ => rfl) rfl v i
 have h2 : 0 ≤ (nE v).getD i 0 := by
  by_cases hi : i < (nE v).length
  ·rw [List.getD_eq_getElem?_getD, List.getElem?_eq_getElem hi]; exact (E_dz v _ (List.getElem_mem hi)).1
  ·rw [List.getD_eq_getElem?_getD, List.getElem?_eq_none (by omega)]; exact Int.le_refl _
 unfold nE at *
 omega
theorem V_nil : nV [] = 0 := rfl
theorem V_cons (x : UInt32) (l : List UInt32) : nV (x :: l) = x.toNat + 4294967296 * nV l := rfl
theorem V_app (l m : List UInt32) : nV (l ++ m) = nV l + 4294967296 ^ l.length * nV m := vl_app _ _ l m
theorem V_split (l : List UInt32) (i : Nat) : nV l = nV (l.take i) + 4294967296 ^ i * nV (l.drop i) := vl_split _ _ l i
theorem V_take (l : List UInt32) (i : Nat) (h : i < l.length) : nV (l.take (i + 1)) = nV (l.take i) + 4294967296 ^ i * (l.getD i 0).toNat := vl_take _ _ l i h
theorem V_drop (l : List UInt32) (i : Nat) (h : i < l.length) : nV (l.drop i) = (l.getD i 0).toNat + 4294967296 * nV (l.drop (i + 1)) := vl_drop _ _ l i h
theorem Z_nil : nZ [] = 0 := rfl
theorem Z_cons (x : Int) (l : List Int) : nZ (x :: l) = x.toNat + 65536 * nZ l := rfl
theorem Z_app (l m : List Int) : nZ (l ++ m) = nZ l + 65536 ^ l.length * nZ m := vl_app _ _ l m
theorem Z_split (l : List Int) (i : Nat) : nZ l = nZ (l.take i) + 65536 ^ i * nZ (l.drop i) := vl_split _ _ l i
theorem Z_take (l : List Int) (i : Nat) (h : i < l.length) : nZ (l.take (i + 1)) = nZ (l.take i) + 65536 ^ i * (l.getD i 0).toNat := vl_take _ _ l i h
theorem Z_drop (l : List Int) (i : Nat) (h : i < l.length) : nZ (l.drop i) = (l.getD i 0).toNat + 65536 * nZ (l.drop (i + 1)) := vl_drop _ _ l i h
theorem Z_set (l : List Int) (i : Nat) (x : Int) (h : i < l.length) : nZ (l.set i x) + 65536 ^ i * (l.getD i 0).toNat = nZ l + 65536 ^ i * x.toNat := vl_set _ _ l i x h
theorem Z_rep (n : Nat) : nZ (List.replicate n 0) = 0 := vl_rep (z := (0 : Int)) _ _ rfl n
end Go.Sx
end
section
namespace Go.Proofs.YtiojofjllkhbhaaGreat
open Go.RowKit Go.Ch Go.Sx
def tabL_qn : List (TypeId × Ti) := [(2, ⟨.int .i64, 1, 8, true, some [.int .i64]⟩),
 (3, ⟨.int .i64, 1, 8, true, some [.int .i64]⟩),
 (5, ⟨.int .u8, 1, 1, true, some [.int .u8]⟩),
 (25, ⟨.sl 63, 1, 24, false, some [.nils]⟩),
 (27, ⟨.st [(25, 0), (25, 1)], 2, 48, false, some [.nils, .nils]⟩),
 (32, ⟨.sl 5, 1, 24, false, some [.nils]⟩),
 (34, ⟨.ifc, 1, 16, true, some [.ifc]⟩),
 (37, ⟨.int .i64, 1, 8, true, some [.int .i64]⟩),
 (56, ⟨.sl 3, 1, 24, false, some [.nils]⟩),
 (63, ⟨.int .u32, 1, 4, true, some [.int .u32]⟩)]
def tab_qn : Tab := fun t => (tabL_qn).lookup t
theorem tabE_qn : (tabL_qn.map fun p => tiOf Tryz.prog p.1) = tabL_qn.map fun p => some p.2 := by kernel_rfl
theorem tabO_qn : TabOk Tryz.prog tab_qn := tab_of tabE_qn
def pspare (n : Nat) (a0 : List UInt8) : Option (Bool) :=
 gd (0 ≤ (0 : Int)) <|
 gd ((0 : Int) < ((a0.length : Nat) : Int)) <|
 bif ((a0.getD 0 0) == 0) then
 gd (0 ≤ (1 : Int)) <|
 gd ((1 : Int) < ((a0.length : Nat) : Int)) <|
 bif (decide ((a0.getD 1 0) < (128 : UInt8))) then
 some true
 else
 gd (0 ≤ (0 : Int)) <|
 gd ((0 : Int) < ((a0.length : Nat) : Int)) <|
 bif ((a0.getD 0 0) == 255) then
 gd (0 ≤ (1 : Int)) <|
 gd ((1 : Int) < ((a0.length : Nat) : Int)) <|
 some (decide ((128 : UInt8) ≤ (a0.getD 1 0)))
 else
 some false
 else
 gd (0 ≤ (0 : Int)) <|
 gd ((0 : Int) < ((a0.length : Nat) : Int)) <|
 bif ((a0.getD 0 0) == 255) then
 gd (0 ≤ (1 : Int)) <|
 gd ((1 : Int) < ((a0.length : Nat) : Int)) <|
 some (decide ((128 : UInt8) ≤ (a0.getD 1 0)))
 else
 some false
def pInt_j1 (n : Nat) (l3_6 : List UInt8) (m3_4 : Nat) : Option (List UInt8) :=
 gd ((l3_6).length ≤ 1000000000000) <|
 some l3_6
def pInt_l2 (n : Nat) : Nat → List UInt8 → Nat → Option (List UInt8)
 | 0, _, _ => none
 | fu_l2 + 1, l3_7, m3_5 =>
  bif (decide ((1 : Int) < ((m3_5 : Nat) : Int))) then
   (pspare n l3_7).bind fun r21_5 =>
   bif r21_5 then
    gd (0 ≤ (1 : Int)) <|
    gd ((1 : Int) ≤ ((m3_5 : Nat) : Int)) <|
    (pInt_l2 n fu_l2) ((l3_7.drop 1).take (m3_5 - 1)) (m3_5 - 1)
   else
    pInt_j1 n l3_7 m3_5
  else
   pInt_j1 n l3_7 m3_5
def pInt_l1 (n : Nat) (a0 : Int) : Nat → List UInt8 → Int → Option (List UInt8)
 | 0, _, _ => none
 | fu_l1 + 1, l3_4, i4_1 =>
 bif (decide ((0 : Int) ≤ i4_1)) then
 gd (0 ≤ i4_1) <|
 gd (i4_1 ≤ (((IntKind.i64).bits : Nat) : Int)) <|
 gd (rmB (l3_4.length + 1) 1) <|
 gd (okI .i64 (i4_1 - 8)) <|
 (pInt_l1 n a0 fu_l1) (l3_4 ++ [(UInt8.ofInt (a0 / 2 ^ i4_1.toNat))]) (i4_1 - 8)
 else
 pInt_l2 n n l3_4 l3_4.length
def pInt (n : Nat) (a0 : Int) : Option (List UInt8) :=
 pInt_l1 n a0 n [] 56
def ptrim_l1 (n : Nat) (a0 : List UInt32) : Nat → Nat → Option (List UInt32 × Nat)
 | 0, _ => none
 | fu_l1 + 1, m0n_2 =>
 bif (decide ((0 : Int) < ((m0n_2 : Nat) : Int))) then
 gd (okI .i64 (((m0n_2 : Nat) : Int) - 1)) <|
 gd (0 ≤ (((m0n_2 : Nat) : Int) - 1)) <|
 gd ((((m0n_2 : Nat) : Int) - 1) < ((m0n_2 : Nat) : Int)) <|
 bif ((a0.getD ((((m0n_2 : Nat) : Int) - 1).toNat) 0) == 0) then
 gd (okI .i64 (((m0n_2 : Nat) : Int) - 1)) <|
 gd (0 ≤ (((m0n_2 : Nat) : Int) - 1)) <|
 gd ((((m0n_2 : Nat) : Int) - 1) ≤ ((m0n_2 : Nat) : Int)) <|
 (ptrim_l1 n a0 fu_l1) ((((m0n_2 : Nat) : Int) - 1).toNat)
 else
 some (a0, m0n_2)
 else
 some (a0, m0n_2)
def ptrim (n : Nat) (a0 : List UInt32) : Option (List UInt32 × Nat) :=
 ptrim_l1 n a0 n a0.length
def cisNaN (n : Nat) (a0 : Int) : Option (Bool) :=
 some (a0 != a0)
def cCmp (n : Nat) (a0 : Int) (a1 : Int) : Option (Int) :=
 (cisNaN n a0).bind fun r8 =>
 (cisNaN n a1).bind fun r10 =>
 bif r8 then
  bif r10 then
   some 0
  else
   some (-1)
 else
  bif r10 then
   some 1
  else
   bif (decide (a0 < a1)) then
    some (-1)
   else
    bif (decide (a1 < a0)) then
     some 1
    else
     some 0
def cisNaN32 (n : Nat) (a0 : UInt32) : Option (Bool) :=
 some (a0 != a0)
def cCmp32 (n : Nat) (a0 : UInt32) (a1 : UInt32) : Option (Int) :=
 (cisNaN32 n a0).bind fun r8 =>
 (cisNaN32 n a1).bind fun r10 =>
 bif r8 then
  bif r10 then
   some 0
  else
   some (-1)
 else
  bif r10 then
   some 1
  else
   bif (decide (a0 < a1)) then
    some (-1)
   else
    bif (decide (a1 < a0)) then
     some 1
    else
     some 0
def pCmp_l1 (n : Nat) (a0 : List UInt32) (a1 : List UInt32) (r9 : List UInt32 × Nat) (r11 : List UInt32 × Nat) : Nat → Int → Option (Int)
 | 0, _ => none
 | fu_l1 + 1, i6_2 =>
  bif (decide ((0 : Int) ≤ i6_2)) then
   gd (0 ≤ i6_2) <|
   gd (i6_2 < ((r9.2 : Nat) : Int)) <|
   gd (0 ≤ i6_2) <|
   gd (i6_2 < ((r11.2 : Nat) : Int)) <|
   (cCmp32 n (((a0.drop 0).take r9.2).getD i6_2.toNat 0) (((a1.drop 0).take r11.2).getD i6_2.toNat 0)).bind fun r35_3 =>
   bif (r35_3 != 0) then
    some r35_3
   else
    gd (okI .i64 (i6_2 - 1)) <|
    (pCmp_l1 n a0 a1 r9 r11 fu_l1) (i6_2 - 1)
  else
   some 0
def pCmp (n : Nat) (a0 : List UInt32) (a1 : List UInt32) : Option (Int) :=
 (ptrim n a0).bind fun r9 =>
 (ptrim n a1).bind fun r11 =>
 (cCmp n ((r9.2 : Nat) : Int) ((r11.2 : Nat) : Int)).bind fun r16 =>
 bif (r16 != 0) then
  some r16
 else
  gd (okI .i64 (((r9.2 : Nat) : Int) - 1)) <|
  pCmp_l1 n a0 a1 r9 r11 n (((r9.2 : Nat) : Int) - 1)
def pWrite_j1 (n : Nat) (a0 : List UInt32) (a1 : Int) (r10 : List UInt32 × Nat) (i27_1 : Int) (k_l1 : (List UInt8) → Int → Option (List UInt8 × Nat × Option Int)) (l6_7 : List UInt8) : Option (List UInt8 × Nat × Option Int) :=
 gd (okI .i64 (i27_1 + 1)) <|
 k_l1 l6_7 (i27_1 + 1)
def pWrite_l1 (n : Nat) (a0 : List UInt32) (a1 : Int) (r10 : List UInt32 × Nat) : Nat → List UInt8 → Int → Option (List UInt8 × Nat × Option Int)
 | 0, _, _ => none
 | fu_l1 + 1, l6_5, i27_1 =>
 bif (decide (i27_1 < (4 * ((r10.2 : Nat) : Int)))) then
 gd ((4 : Int) ≠ 0) <|
 gd (okI .i64 (Int.tdiv i27_1 4)) <|
 gd (0 ≤ (Int.tdiv i27_1 4)) <|
 gd ((Int.tdiv i27_1 4) < ((r10.2 : Nat) : Int)) <|
 gd ((4 : Int) ≠ 0) <|
 gd (okI .i64 (8 * (Int.tmod i27_1 4))) <|
 gd (0 ≤ (8 * (Int.tmod i27_1 4))) <|
 bif (decide (i27_1 < a1)) then
 gd (okI .i64 (a1 - 1)) <|
 gd (okI .i64 ((a1 - 1) - i27_1)) <|
 gd (0 ≤ ((a1 - 1) - i27_1)) <|
 gd (((a1 - 1) - i27_1) < ((a1.toNat : Nat) : Int)) <|
 pWrite_j1 n a0 a1 r10 i27_1 (pWrite_l1 n a0 a1 r10 fu_l1) (l6_5.set (((a1 - 1) - i27_1).toNat) ((shr32 (((a0.drop 0).take r10.2).getD ((Int.tdiv i27_1 4).toNat) 0) (8 * (Int.tmod i27_1 4))).toUInt8))
 else
 bif (((shr32 (((a0.drop 0).take r10.2).getD ((Int.tdiv i27_1 4).toNat) 0) (8 * (Int.tmod i27_1 4))).toUInt8) != 0) then
 some ([], 0, (some 1))
 else
 pWrite_j1 n a0 a1 r10 i27_1 (pWrite_l1 n a0 a1 r10 fu_l1) l6_5
 else
 some (l6_5, a1.toNat, none)
def pWrite (n : Nat) (a0 : List UInt32) (a1 : Int) : Option (List UInt8 × Nat × Option Int) :=
 (ptrim n a0).bind fun r10 =>
 bif (decide ((64 : Int) < ((r10.2 : Nat) : Int))) then
  some ([], 0, (some 4))
 else
  bif (decide (a1 < (0 : Int))) then
   some ([], 0, (some 1))
  else
   bif (decide ((256 : Int) < a1)) then
    some ([], 0, (some 1))
   else
    gd (0 ≤ a1) <|
    gd (a1 = a1) <|
    gd (rmB a1.toNat 1) <|
    gd (okI .i64 (4 * ((r10.2 : Nat) : Int))) <|
    pWrite_l1 n a0 a1 r10 n (List.replicate a1.toNat 0) 0
def pBig_j1 (n : Nat) (l4_4 : List UInt8) (m4_4 : Nat) : Option (List UInt8 × Option Int) :=
 gd ((l4_4).length ≤ 1000000000000) <|
 some (l4_4, none)
def pBig_l1 (n : Nat) : Nat → List UInt8 → Nat → Option (List UInt8 × Option Int)
 | 0, _, _ => none
 | fu_l1 + 1, l4_5, m4_5 =>
  bif (decide ((1 : Int) < ((m4_5 : Nat) : Int))) then
   (pspare n l4_5).bind fun r22_4 =>
   bif r22_4 then
    gd (0 ≤ (1 : Int)) <|
    gd ((1 : Int) ≤ ((m4_5 : Nat) : Int)) <|
    (pBig_l1 n fu_l1) ((l4_5.drop 1).take (m4_5 - 1)) (m4_5 - 1)
   else
    pBig_j1 n l4_5 m4_5
  else
   pBig_j1 n l4_5 m4_5
def pBig (n : Nat) (a0 : List UInt32) : Option (List UInt8 × Option Int) :=
 (pWrite n a0 256).bind fun r8 =>
 bif (!((r8.2.2).isNone)) then
  some ([], (some 4))
 else
  gd (rmB (1 + r8.2.1) 1) <|
  pBig_l1 n n ([0] ++ r8.1) (([0] ++ r8.1).length)
def rtrim_l1 (n : Nat) (a0 : List Int) : Nat → Int → Option (List Int × Nat)
 | 0, _ => none
 | fu_l1 + 1, i3_2 =>
 bif (decide ((0 : Int) < i3_2)) then
 gd (okI .i64 (i3_2 - 1)) <|
 gd (0 ≤ (i3_2 - 1)) <|
 gd ((i3_2 - 1) < ((a0.length : Nat) : Int)) <|
 bif ((a0.getD ((i3_2 - 1).toNat) 0) == 0) then
 gd (okI .i64 (i3_2 - 1)) <|
 (rtrim_l1 n a0 fu_l1) (i3_2 - 1)
 else
 gd (0 ≤ i3_2) <|
 gd (i3_2 ≤ ((a0.length : Nat) : Int)) <|
 some (a0, i3_2.toNat)
 else
 gd (0 ≤ i3_2) <|
 gd (i3_2 ≤ ((a0.length : Nat) : Int)) <|
 some (a0, i3_2.toNat)
def rtrim (n : Nat) (a0 : List Int) : Option (List Int × Nat) :=
 rtrim_l1 n a0 n ((a0.length : Nat) : Int)
def rOf_l1 (n : Nat) (a0 : List UInt32) : Nat → List Int → Int → Option (List Int × Nat)
 | 0, _, _ => none
 | fu_l1 + 1, z3_2, i4_2 =>
  bif (decide (i4_2 < ((a0.length : Nat) : Int))) then
   gd (0 ≤ i4_2) <|
   gd (i4_2 < ((a0.length : Nat) : Int)) <|
   gd ((65536 : UInt32) ≠ 0) <|
   gd (0 ≤ i4_2) <|
   gd (i4_2 < ((a0.length : Nat) : Int)) <|
   gd ((65536 : UInt32) ≠ 0) <|
   gd (rmB (z3_2.length + 2) 8) <|
   gd (okI .i64 (i4_2 + 1)) <|
   (rOf_l1 n a0 fu_l1) (z3_2 ++ [((((a0.getD i4_2.toNat 0) % (65536 : UInt32)).toNat : Nat) : Int), ((((a0.getD i4_2.toNat 0) / (65536 : UInt32)).toNat : Nat) : Int)]) (i4_2 + 1)
  else
   (rtrim n z3_2).bind fun r27_2 =>
   some (((z3_2.drop 0).take r27_2.2), r27_2.2)
def rOf (n : Nat) (a0 : List UInt32) : Option (List Int × Nat) :=
 rOf_l1 n a0 n [] 0
def rCmp_l1 (n : Nat) (a0 : List Int) (a1 : List Int) : Nat → Int → Option (Int)
 | 0, _ => none
 | fu_l1 + 1, i5_2 =>
 bif (decide ((0 : Int) ≤ i5_2)) then
 gd (0 ≤ i5_2) <|
 gd (i5_2 < ((a0.length : Nat) : Int)) <|
 gd (0 ≤ i5_2) <|
 gd (i5_2 < ((a1.length : Nat) : Int)) <|
 bif ((a0.getD i5_2.toNat 0) != (a1.getD i5_2.toNat 0)) then
 gd (0 ≤ i5_2) <|
 gd (i5_2 < ((a0.length : Nat) : Int)) <|
 gd (0 ≤ i5_2) <|
 gd (i5_2 < ((a1.length : Nat) : Int)) <|
 bif (decide ((a0.getD i5_2.toNat 0) < (a1.getD i5_2.toNat 0))) then
 some (-1)
 else
 some 1
 else
 gd (okI .i64 (i5_2 - 1)) <|
 (rCmp_l1 n a0 a1 fu_l1) (i5_2 - 1)
 else
 some 0
def rCmp (n : Nat) (a0 : List Int) (a1 : List Int) : Option (Int) :=
 bif (((a0.length : Nat) : Int) != ((a1.length : Nat) : Int)) then
 bif (decide (((a0.length : Nat) : Int) < ((a1.length : Nat) : Int))) then
 some (-1)
 else
 some 1
 else
 gd (okI .i64 (((a0.length : Nat) : Int) - 1)) <|
 rCmp_l1 n a0 a1 n (((a0.length : Nat) : Int) - 1)
def rSize_j1 (n : Nat) (i3_2 : Int) : Option (Int) :=
 some i3_2
def rSize (n : Nat) (a0 : List Int) : Option (Int) :=
 gd (okI .i64 (2 * ((a0.length : Nat) : Int))) <|
 bif (decide ((0 : Int) < (2 * ((a0.length : Nat) : Int)))) then
 gd (okI .i64 (((a0.length : Nat) : Int) - 1)) <|
 gd (0 ≤ (((a0.length : Nat) : Int) - 1)) <|
 gd ((((a0.length : Nat) : Int) - 1) < ((a0.length : Nat) : Int)) <|
 bif (decide ((a0.getD ((((a0.length : Nat) : Int) - 1).toNat) 0) < (256 : Int))) then
 gd (okI .i64 ((2 * ((a0.length : Nat) : Int)) - 1)) <|
 rSize_j1 n ((2 * ((a0.length : Nat) : Int)) - 1)
 else
 rSize_j1 n (2 * ((a0.length : Nat) : Int))
 else
 rSize_j1 n (2 * ((a0.length : Nat) : Int))
def rWrite_j1 (n : Nat) (a0 : List Int) (a1 : Int) (l6_1 : List UInt8) (i7_1 : Int) (k_l1 : (List UInt8) → Int → Option (List UInt8 × Nat × Bool)) (i8_5 : Int) : Option (List UInt8 × Nat × Bool) :=
 gd (okI .i64 (a1 - 1)) <|
 gd (okI .i64 ((a1 - 1) - i7_1)) <|
 gd ((256 : Int) ≠ 0) <|
 gd (0 ≤ ((a1 - 1) - i7_1)) <|
 gd (((a1 - 1) - i7_1) < ((a1.toNat : Nat) : Int)) <|
 gd (okI .i64 (i7_1 + 1)) <|
 k_l1 (l6_1.set (((a1 - 1) - i7_1).toNat) (UInt8.ofInt (Int.tmod i8_5 256))) (i7_1 + 1)
def rWrite_l1 (n : Nat) (a0 : List Int) (a1 : Int) : Nat → List UInt8 → Int → Option (List UInt8 × Nat × Bool)
 | 0, _, _ => none
 | fu_l1 + 1, l6_1, i7_1 =>
 bif (decide (i7_1 < a1)) then
 gd ((2 : Int) ≠ 0) <|
 gd (okI .i64 (Int.tdiv i7_1 2)) <|
 bif (decide ((Int.tdiv i7_1 2) < ((a0.length : Nat) : Int))) then
 gd ((2 : Int) ≠ 0) <|
 gd (okI .i64 (Int.tdiv i7_1 2)) <|
 gd (0 ≤ (Int.tdiv i7_1 2)) <|
 gd ((Int.tdiv i7_1 2) < ((a0.length : Nat) : Int)) <|
 gd ((2 : Int) ≠ 0) <|
 bif ((Int.tmod i7_1 2) == 1) then
 gd ((256 : Int) ≠ 0) <|
 gd (okI .i64 (Int.tdiv (a0.getD ((Int.tdiv i7_1 2).toNat) 0) 256)) <|
 rWrite_j1 n a0 a1 l6_1 i7_1 (rWrite_l1 n a0 a1 fu_l1) (Int.tdiv (a0.getD ((Int.tdiv i7_1 2).toNat) 0) 256)
 else
 rWrite_j1 n a0 a1 l6_1 i7_1 (rWrite_l1 n a0 a1 fu_l1) (a0.getD ((Int.tdiv i7_1 2).toNat) 0)
 else
 some (l6_1, a1.toNat, true)
 else
 some (l6_1, a1.toNat, true)
def rWrite (n : Nat) (a0 : List Int) (a1 : Int) : Option (List UInt8 × Nat × Bool) :=
 bif (decide (a1 < (0 : Int))) then
  some ([], 0, false)
 else
  (rSize n a0).bind fun r13 =>
  bif (decide (a1 < r13)) then
   some ([], 0, false)
  else
   gd (0 ≤ a1) <|
   gd (a1 = a1) <|
   gd (rmB a1.toNat 1) <|
   rWrite_l1 n a0 a1 n (List.replicate a1.toNat 0) 0
def rBig (n : Nat) (a0 : List UInt32) : Option (List UInt8 × Nat) :=
 (rOf n a0).bind fun r7 =>
 (rSize n r7.1).bind fun r11 =>
 (rWrite n r7.1 r11).bind fun r12 =>
 bif (((r12.2.1 : Nat) : Int) == 0) then
  gd (rmB (1 + r12.2.1) 1) <|
  some (([0] ++ r12.1), ([0] ++ r12.1).length)
 else
  gd (0 ≤ (0 : Int)) <|
  gd ((0 : Int) < ((r12.2.1 : Nat) : Int)) <|
  bif (decide ((128 : UInt8) ≤ (r12.1.getD 0 0))) then
   gd (rmB (1 + r12.2.1) 1) <|
   some (([0] ++ r12.1), ([0] ++ r12.1).length)
  else
   some (r12.1, r12.2.1)
def rdigit (n : Nat) (a0 : List Int) (a1 : Int) : Option (Int) :=
 bif (decide (a1 < ((a0.length : Nat) : Int))) then
 gd (0 ≤ a1) <|
 gd (a1 < ((a0.length : Nat) : Int)) <|
 some (a0.getD a1.toNat 0)
 else
 some 0
def rMul_l2 (n : Nat) (a0 : List Int) (a1 : List Int) (i6_2 : Int) (k_l1 : (List Int) → Int → Option (List Int × Nat)) : Nat → List Int → Int → Int → Option (List Int × Nat)
 | 0, _, _, _ => none
 | fu_l2 + 1, z5_11, i7_8, i8_8 =>
 bif (decide (i8_8 < ((a1.length : Nat) : Int))) then
 gd (0 ≤ i6_2) <|
 gd (i6_2 < ((a0.length : Nat) : Int)) <|
 gd (0 ≤ i8_8) <|
 gd (i8_8 < ((a1.length : Nat) : Int)) <|
 gd (okI .i64 ((a0.getD i6_2.toNat 0) * (a1.getD i8_8.toNat 0))) <|
 gd (okI .i64 (i7_8 + ((a0.getD i6_2.toNat 0) * (a1.getD i8_8.toNat 0)))) <|
 gd (okI .i64 (i6_2 + i8_8)) <|
 gd (0 ≤ (i6_2 + i8_8)) <|
 gd ((i6_2 + i8_8) < (((((a0.length : Nat) : Int) + ((a1.length : Nat) : Int)).toNat : Nat) : Int)) <|
 gd (okI .i64 ((i7_8 + ((a0.getD i6_2.toNat 0) * (a1.getD i8_8.toNat 0))) + (z5_11.getD ((i6_2 + i8_8).toNat) 0))) <|
 gd (okI .i64 (i6_2 + i8_8)) <|
 gd ((65536 : Int) ≠ 0) <|
 gd (0 ≤ (i6_2 + i8_8)) <|
 gd ((i6_2 + i8_8) < (((((a0.length : Nat) : Int) + ((a1.length : Nat) : Int)).toNat : Nat) : Int)) <|
 gd ((65536 : Int) ≠ 0) <|
 gd (okI .i64 (Int.tdiv ((i7_8 + ((a0.getD i6_2.toNat 0) * (a1.getD i8_8.toNat 0))) + (z5_11.getD ((i6_2 + i8_8).toNat) 0)) 65536)) <|
 gd (okI .i64 (i8_8 + 1)) <|
 (rMul_l2 n a0 a1 i6_2 k_l1 fu_l2) (z5_11.set ((i6_2 + i8_8).toNat) (Int.tmod ((i7_8 + ((a0.getD i6_2.toNat 0) * (a1.getD i8_8.toNat 0))) + (z5_11.getD ((i6_2 + i8_8).toNat) 0)) 65536)) (Int.tdiv ((i7_8 + ((a0.getD i6_2.toNat 0) * (a1.getD i8_8.toNat 0))) + (z5_11.getD ((i6_2 + i8_8).toNat) 0)) 65536) (i8_8 + 1)
 else
 gd (okI .i64 (i6_2 + ((a1.length : Nat) : Int))) <|
 gd (0 ≤ (i6_2 + ((a1.length : Nat) : Int))) <|
 gd ((i6_2 + ((a1.length : Nat) : Int)) < (((((a0.length : Nat) : Int) + ((a1.length : Nat) : Int)).toNat : Nat) : Int)) <|
 gd (okI .i64 (i6_2 + 1)) <|
 k_l1 (z5_11.set ((i6_2 + ((a1.length : Nat) : Int)).toNat) i7_8) (i6_2 + 1)
def rMul_l1 (n : Nat) (a0 : List Int) (a1 : List Int) : Nat → List Int → Int → Option (List Int × Nat)
 | 0, _, _ => none
 | fu_l1 + 1, z5_9, i6_2 =>
  bif (decide (i6_2 < ((a0.length : Nat) : Int))) then
   rMul_l2 n a0 a1 i6_2 (rMul_l1 n a0 a1 fu_l1) n z5_9 0 0
  else
   (rtrim n z5_9).bind fun r62_2 =>
   some (((z5_9.drop 0).take r62_2.2), r62_2.2)
def rMul (n : Nat) (a0 : List Int) (a1 : List Int) : Option (List Int × Nat) :=
 gd (okI .i64 (((a0.length : Nat) : Int) + ((a1.length : Nat) : Int))) <|
 gd (0 ≤ (((a0.length : Nat) : Int) + ((a1.length : Nat) : Int))) <|
 gd ((((a0.length : Nat) : Int) + ((a1.length : Nat) : Int)) = (((a0.length : Nat) : Int) + ((a1.length : Nat) : Int))) <|
 gd (rmB ((((a0.length : Nat) : Int) + ((a1.length : Nat) : Int)).toNat) 8) <|
 rMul_l1 n a0 a1 n (List.replicate ((((a0.length : Nat) : Int) + ((a1.length : Nat) : Int)).toNat) 0) 0
def rAdd_l1 (n : Nat) (a0 : List Int) (a1 : List Int) : Nat → List Int → Int → Int → Option (List Int × Nat)
 | 0, _, _, _ => none
 | fu_l1 + 1, z5_2, i6_2, i7_2 =>
  bif (decide (i7_2 < ((a0.length : Nat) : Int))) then
   (rdigit n a0 i7_2).bind fun r27_3 =>
   gd (okI .i64 (i6_2 + r27_3)) <|
   (rdigit n a1 i7_2).bind fun r31_3 =>
   gd (okI .i64 ((i6_2 + r27_3) + r31_3)) <|
   gd ((65536 : Int) ≠ 0) <|
   gd (rmB (z5_2.length + 1) 8) <|
   gd ((65536 : Int) ≠ 0) <|
   gd (okI .i64 (Int.tdiv ((i6_2 + r27_3) + r31_3) 65536)) <|
   gd (okI .i64 (i7_2 + 1)) <|
   (rAdd_l1 n a0 a1 fu_l1) (z5_2 ++ [(Int.tmod ((i6_2 + r27_3) + r31_3) 65536)]) (Int.tdiv ((i6_2 + r27_3) + r31_3) 65536) (i7_2 + 1)
  else
   bif (decide (i7_2 < ((a1.length : Nat) : Int))) then
    (rdigit n a0 i7_2).bind fun r27_3 =>
    gd (okI .i64 (i6_2 + r27_3)) <|
    (rdigit n a1 i7_2).bind fun r31_3 =>
    gd (okI .i64 ((i6_2 + r27_3) + r31_3)) <|
    gd ((65536 : Int) ≠ 0) <|
    gd (rmB (z5_2.length + 1) 8) <|
    gd ((65536 : Int) ≠ 0) <|
    gd (okI .i64 (Int.tdiv ((i6_2 + r27_3) + r31_3) 65536)) <|
    gd (okI .i64 (i7_2 + 1)) <|
    (rAdd_l1 n a0 a1 fu_l1) (z5_2 ++ [(Int.tmod ((i6_2 + r27_3) + r31_3) 65536)]) (Int.tdiv ((i6_2 + r27_3) + r31_3) 65536) (i7_2 + 1)
   else
    bif (decide ((0 : Int) < i6_2)) then
     (rdigit n a0 i7_2).bind fun r27_3 =>
     gd (okI .i64 (i6_2 + r27_3)) <|
     (rdigit n a1 i7_2).bind fun r31_3 =>
     gd (okI .i64 ((i6_2 + r27_3) + r31_3)) <|
     gd ((65536 : Int) ≠ 0) <|
     gd (rmB (z5_2.length + 1) 8) <|
     gd ((65536 : Int) ≠ 0) <|
     gd (okI .i64 (Int.tdiv ((i6_2 + r27_3) + r31_3) 65536)) <|
     gd (okI .i64 (i7_2 + 1)) <|
     (rAdd_l1 n a0 a1 fu_l1) (z5_2 ++ [(Int.tmod ((i6_2 + r27_3) + r31_3) 65536)]) (Int.tdiv ((i6_2 + r27_3) + r31_3) 65536) (i7_2 + 1)
    else
     (rtrim n z5_2).bind fun r41_2 =>
     some (((z5_2.drop 0).take r41_2.2), r41_2.2)
def rAdd (n : Nat) (a0 : List Int) (a1 : List Int) : Option (List Int × Nat) :=
 rAdd_l1 n a0 a1 n [] 0 0
def rTo_j1 (n : Nat) (a0 : List Int) (w3_2 : List UInt32) (i4_2 : Int) (k_l1 : (List UInt32) → Int → Option (List UInt32)) (x5_8 : UInt32) : Option (List UInt32) :=
 gd (rmB (w3_2.length + 1) 4) <|
 gd (okI .i64 (i4_2 + 2)) <|
 k_l1 (w3_2 ++ [x5_8]) (i4_2 + 2)
def rTo_l1 (n : Nat) (a0 : List Int) : Nat → List UInt32 → Int → Option (List UInt32)
 | 0, _, _ => none
 | fu_l1 + 1, w3_2, i4_2 =>
 bif (decide (i4_2 < ((a0.length : Nat) : Int))) then
 gd (0 ≤ i4_2) <|
 gd (i4_2 < ((a0.length : Nat) : Int)) <|
 gd (okI .i64 (i4_2 + 1)) <|
 bif (decide ((i4_2 + 1) < ((a0.length : Nat) : Int))) then
 gd (okI .i64 (i4_2 + 1)) <|
 gd (0 ≤ (i4_2 + 1)) <|
 gd ((i4_2 + 1) < ((a0.length : Nat) : Int)) <|
 rTo_j1 n a0 w3_2 i4_2 (rTo_l1 n a0 fu_l1) ((UInt32.ofInt (a0.getD i4_2.toNat 0)) + ((UInt32.ofInt (a0.getD ((i4_2 + 1).toNat) 0)) * (65536 : UInt32)))
 else
 rTo_j1 n a0 w3_2 i4_2 (rTo_l1 n a0 fu_l1) (UInt32.ofInt (a0.getD i4_2.toNat 0))
 else
 some w3_2
def rTo (n : Nat) (a0 : List Int) : Option (List UInt32) :=
 rTo_l1 n a0 n [] 0
def ksize_l1 (n : Nat) (a0 : List UInt32) : Nat → Int → Option (Int)
 | 0, _ => none
 | fu_l1 + 1, i6_2 =>
  bif (decide (i6_2 < (129 : Int))) then
   (pWrite n a0 i6_2).bind fun r12_3 =>
   bif ((r12_3.2.2).isNone) then
    some i6_2
   else
    gd (okI .i64 (i6_2 + 1)) <|
    (ksize_l1 n a0 fu_l1) (i6_2 + 1)
  else
   some (-1)
def ksize (n : Nat) (a0 : List UInt32) : Option (Int) :=
 ksize_l1 n a0 n 0
def kodd (n : Nat) (a0 : List UInt32) : Option (Bool) :=
 bif (decide ((0 : Int) < ((a0.length : Nat) : Int))) then
 gd (0 ≤ (0 : Int)) <|
 gd ((0 : Int) < ((a0.length : Nat) : Int)) <|
 some (((a0.getD 0 0) &&& (1 : UInt32)) == 1)
 else
 some false
def kCheck (n : Nat) (a0_0 : List UInt32) (a0_1 : List UInt32) : Option (Option Int) :=
 (ksize n a0_0).bind fun r6 =>
 bif (decide (r6 < (62 : Int))) then
  some (some 1)
 else
  (kodd n a0_0).bind fun r12 =>
  bif (!r12) then
   some (some 1)
  else
   (kodd n a0_1).bind fun r18 =>
   bif (!r18) then
    some (some 1)
   else
    (pCmp n a0_1 [3]).bind fun r25 =>
    bif (decide (r25 < (0 : Int))) then
     some (some 1)
    else
     (pCmp n a0_1 a0_0).bind fun r33 =>
     bif (decide ((0 : Int) ≤ r33)) then
      some (some 1)
     else
      some none
def qodd (n : Nat) (a0 : List Int) : Option (Bool) :=
 bif (decide ((0 : Int) < ((a0.length : Nat) : Int))) then
 gd (0 ≤ (0 : Int)) <|
 gd ((0 : Int) < ((a0.length : Nat) : Int)) <|
 gd ((2 : Int) ≠ 0) <|
 some ((Int.tmod (a0.getD 0 0) 2) == 1)
 else
 some false
def qPublic (n : Nat) (a0_0 : List UInt32) (a0_1 : List UInt32) : Option (Bool) :=
 (rOf n a0_0).bind fun r9 =>
 (rOf n a0_1).bind fun r12 =>
 (rSize n r9.1).bind fun r14 =>
 bif (decide ((62 : Int) ≤ r14)) then
  bif (decide (r14 ≤ (128 : Int))) then
   (qodd n r9.1).bind fun r24 =>
   bif r24 then
    (qodd n r12.1).bind fun r28 =>
    bif r28 then
     (rCmp n r12.1 [3]).bind fun r33 =>
     bif (decide ((0 : Int) ≤ r33)) then
      (rCmp n r12.1 r9.1).bind fun r39 =>
      some (decide (r39 < (0 : Int)))
     else
      some false
    else
     some false
   else
    some false
  else
   some false
 else
  some false
def pspare_R (r : Bool) : S := ⟨[(2, kB r)], [], []⟩
def pspare_ct (n : Nat) (r : Bool) : Ct := ctc (rB 5).rd fun _ l0 => ct0 fun H => ([pspare n l0 = some r], shA H.length (kB r), shH H.length [])
theorem pspare_ok (n : Nat) (r : Bool) : FnOk Tryz.prog Tr 42 (pspare_ct n r) := by
 refine fnok Tryz.func42 ?_
 refine HO_c (rB 5) fun l0 _ => HO_0 tabO_qn (pspare_R r) [.tmp 2] [] 25 Tryz.func42 fun w hG h => ?_
 unfold pspare at h
 have hT := tabO_qn
 refine Vrs hT [0] ⟨[(0, kH 0)], [], [ob 5 l0]⟩ ?_
 refine W_seq ?_
 obtain ⟨g1, g2, h⟩ := gd2 h
 rcases Bool.eq_false_or_eq_true ((l0.getD 0 0) == 0) with g3 | g3
 ·replace h := bif_t h g3
  obtain ⟨g4, g5, h⟩ := gd2 h
  rcases Bool.eq_false_or_eq_true (decide ((l0.getD 1 0) < (128 : UInt8))) with g6 | g6
  ·replace h := bif_t h g6
   refine Vg hT fN [(4, true), (10, true)] [] [] ⟨[(2, kB true)], [], []⟩ (aP g1 (aP g2 (aP g3 (aP g4 (aP g5 (aP g6 aN)))))) ?_
   refine Vc [] [] (pspare_R true) (W_ret ?_)
   exact ⟨.inl rfl, by cases h; rfl⟩
  ·replace h := bif_f h g6
   obtain ⟨g7, g8, h⟩ := gd2 h
   rcases Bool.eq_false_or_eq_true ((l0.getD 0 0) == 255) with g9 | g9
   ·replace h := bif_t h g9
    obtain ⟨g10, g11, h⟩ := gd2 h
    refine Vg hT fN [(4, true), (10, false), (15, true)] [] [] ⟨[(2, kB (decide ((128 : UInt8) ≤ (l0.getD 1 0))))], [], []⟩ (aP g1 (aP g2 (aP g3 (aP g4 (aP g5 (aP g6 (aP g7 (aP g8 (aP g9 (aP g10 (aP g11 aN))))))))))) ?_
    refine Vc [] [] (pspare_R (decide ((128 : UInt8) ≤ (l0.getD 1 0)))) (W_ret ?_)
    exact ⟨.inl rfl, by cases h; rfl⟩
   ·replace h := bif_f h g9
    refine Vg hT fN [(4, true), (10, false), (15, false)] [] [] ⟨[(2, kB false)], [], []⟩ (aP g1 (aP g2 (aP g3 (aP g4 (aP g5 (aP g6 (aP g7 (aP g8 (aP g9 aN))))))))) ?_
    refine Vc [] [] (pspare_R false) (W_ret ?_)
    exact ⟨.inl rfl, by cases h; rfl⟩
 ·replace h := bif_f h g3
  obtain ⟨g12, g13, h⟩ := gd2 h
  rcases Bool.eq_false_or_eq_true ((l0.getD 0 0) == 255) with g14 | g14
  ·replace h := bif_t h g14
   obtain ⟨g15, g16, h⟩ := gd2 h
   refine Vg hT fN [(4, false), (15, true)] [] [] ⟨[(2, kB (decide ((128 : UInt8) ≤ (l0.getD 1 0))))], [], []⟩ (aP g1 (aP g2 (aP g3 (aP g12 (aP g13 (aP g14 (aP g15 (aP g16 aN)))))))) ?_
   refine Vc [] [] (pspare_R (decide ((128 : UInt8) ≤ (l0.getD 1 0)))) (W_ret ?_)
   exact ⟨.inl rfl, by cases h; rfl⟩
  ·replace h := bif_f h g14
   refine Vg hT fN [(4, false), (15, false)] [] [] ⟨[(2, kB false)], [], []⟩ (aP g1 (aP g2 (aP g3 (aP g12 (aP g13 (aP g14 aN)))))) ?_
   refine Vc [] [] (pspare_R false) (W_ret ?_)
   exact ⟨.inl rfl, by cases h; rfl⟩
def pInt_j1_E (l3_6 : List UInt8) (m3_4 : Nat) : S := ⟨[(3, kH 0)], [], [⟨(.ro true), 5, 1, m3_4, .b l3_6⟩]⟩
abbrev pInt_j1_P (n : Nat) (r : List UInt8) : S → Prop := fun s => ∃ (l3_6 : List UInt8), ∃ (m3_4 : Nat), s = pInt_j1_E l3_6 m3_4 ∧ pInt_j1 n l3_6 m3_4 = some r
def pInt_l2_E (l3_7 : List UInt8) (m3_5 : Nat) : S := ⟨[(3, kH 0)], [], [⟨(.ro true), 5, 1, m3_5, .b l3_7⟩]⟩
abbrev pInt_l2_P (n : Nat) (r : List UInt8) (fu : Nat) : S → Prop := fun s => ∃ (l3_7 : List UInt8), ∃ (m3_5 : Nat), s = pInt_l2_E l3_7 m3_5 ∧ pInt_l2 n fu l3_7 m3_5 = some r
def pInt_l1_E (a0 : Int) (l3_4 : List UInt8) (i4_1 : Int) : S := ⟨[(0, kI a0), (3, kH 0), (4, kI i4_1)], [], [nb 5 l3_4]⟩
abbrev pInt_l1_P (n : Nat) (a0 : Int) (r : List UInt8) (fu : Nat) : S → Prop := fun s => ∃ (l3_4 : List UInt8), ∃ (i4_1 : Int), s = pInt_l1_E a0 l3_4 i4_1 ∧ pInt_l1 n a0 fu l3_4 i4_1 = some r
def pInt_R (r : List UInt8) : S := ⟨[(2, kH 0)], [], [nb 5 r]⟩
def pInt_ct (n : Nat) (r : List UInt8) : Ct := ctc rI.rd fun _ l0 => ct0 fun H => ([pInt n l0 = some r], shA H.length (kH 0), shH H.length [nb 5 r])
theorem pInt_ok (n : Nat) (r : List UInt8) : FnOk Tryz.prog Tr 16 (pInt_ct n r) := by
 refine fnok Tryz.func16 ?_
 refine HO_c rI fun l0 _ => HO_0 tabO_qn (pInt_R r) [.tmp 2] [0] 27 Tryz.func16 fun w hG h => ?_
 unfold pInt at h
 have hT := tabO_qn
 refine Vrs hT [] ⟨[(0, kI l0)], [], []⟩ ?_
 refine Vrs hT [] ⟨[(0, kI l0), (3, .c (.nils))], [], []⟩ ?_
 refine W_seq ?_
 refine Vrs hT [] ⟨[(0, kI l0), (3, .c (.nils)), (4, kI 56)], [], []⟩ ?_
 refine W_block ?_
 refine Vc [.nil 3 5 1 (.b [])] [0] (pInt_l1_E l0 [] 56) (W_lp ((pInt_l1_P n l0 r)) n ⟨_, _, rfl, h⟩ ?_)
 rintro fu_l1 _ ⟨l3_4, i4_1, rfl, h⟩
 cases fu_l1 with
 | zero => cases h
 | succ fu_l1 =>
  refine ⟨fu_l1, rfl, ?_⟩
  rw [pInt_l1] at h
  refine W_seq ?_
  refine Vrs hT [0] ⟨[(0, kI l0), (3, kH 0), (4, kI i4_1), (6, kB (decide ((0 : Int) ≤ i4_1)))], [], [nb 5 l3_4]⟩ ?_
  refine Vi ((decide ((0 : Int) ≤ i4_1))) (fun g11 => ?_) (fun g11 => ?_)
  ·replace h := bif_t h g11
   refine W_skip ?_
   refine W_seq ?_
   refine W_block ?_
   obtain ⟨g1, g2, g3, h⟩ := gd3 h
   refine Vg hT fN [] [] [2] ⟨[(0, kI l0), (3, kH 0), (4, kI i4_1)], [], [nb 5 (l3_4 ++ [(UInt8.ofInt (l0 / 2 ^ i4_1.toNat))])]⟩ (aP g1 (aP g2 (aP g3 aN))) ?_
   obtain ⟨g4, h⟩ := gd_some h
   refine Vg hT fN [] [] [0] (pInt_l1_E l0 (l3_4 ++ [(UInt8.ofInt (l0 / 2 ^ i4_1.toNat))]) (i4_1 - 8)) (aP g4 aN) ?_
   exact ⟨_, _, rfl, h⟩
  ·replace h := bif_f h g11
   refine Vc [] [0] ⟨[(3, kH 0)], [], [nb 5 l3_4]⟩ (W_exit ?_)
   refine W_join (pInt_j1_P n r) ?_ ?_
   ·rintro _ ⟨l3_6, m3_4, rfl, h⟩
    unfold pInt_j1 at h
    obtain ⟨g5, h⟩ := gd_some h
    refine Vgs hT (fT 1 cloneb_h fN) [] [] [1] ⟨[(2, kH 0)], [], [nb 5 l3_6]⟩ (aP g5 aN) ?_
    refine Vc [] [0] (pInt_R l3_6) (W_ret ?_)
    exact ⟨.inl rfl, by cases h; rfl⟩
   ·refine W_block ?_
    refine Vc [.vw 3 true] [1] (pInt_l2_E l3_4 l3_4.length) (W_lp ((pInt_l2_P n r)) n ⟨_, _, rfl, h⟩ ?_)
    rintro fu_l2 _ ⟨l3_7, m3_5, rfl, h⟩
    cases fu_l2 with
    | zero => cases h
    | succ fu_l2 =>
     refine ⟨fu_l2, rfl, ?_⟩
     rw [pInt_l2] at h
     refine W_seq ?_
     refine W_seq ?_
     rcases Bool.eq_false_or_eq_true (decide ((1 : Int) < ((m3_5 : Nat) : Int))) with g6 | g6
     ·replace h := bif_t h g6
      obtain ⟨r21_5, g7, h⟩ := bind_some' h
      refine Vg hT (fT 5 (pspare_ok n r21_5) fN) [(3, true)] [] [0] ⟨[(3, kH 0), (22, kB r21_5)], [], [⟨(.ro true), 5, 1, m3_5, .b l3_7⟩]⟩ (aP g6 (aP g7 aN)) ?_
      refine Vi (r21_5) (fun g10 => ?_) (fun g10 => ?_)
      ·replace h := bif_t h g10
       refine W_skip ?_
       refine W_block ?_
       obtain ⟨g8, g9, h⟩ := gd2 h
       refine Vg hT fN [] [.vw 3 true] [1] (pInt_l2_E ((l3_7.drop 1).take (m3_5 - 1)) (m3_5 - 1)) (aP g8 (aP g9 aN)) ?_
       exact ⟨_, _, rfl, h⟩
      ·replace h := bif_f h g10
       refine Vc [] [0] (pInt_j1_E l3_7 m3_5) (W_exit ?_)
       exact ⟨_, _, rfl, h⟩
     ·replace h := bif_f h g6
      refine Vg hT fN [(3, false)] [] [0] ⟨[(3, kH 0), (22, kB false)], [], [⟨(.ro true), 5, 1, m3_5, .b l3_7⟩]⟩ (aP g6 aN) ?_
      refine Vi (false) (fun hb => by cases hb) (fun _ => ?_)
      refine Vc [] [0] (pInt_j1_E l3_7 m3_5) (W_exit ?_)
      exact ⟨_, _, rfl, h⟩
def ptrim_l1_E (a0 : List UInt32) (m0n_2 : Nat) : S := ⟨[(0, .c (.sl 0 0 m0n_2))], [(1000000, kH 0)], [ow 63 a0]⟩
abbrev ptrim_l1_P (n : Nat) (a0 : List UInt32) (r : List UInt32 × Nat) (fu : Nat) : S → Prop := fun s => ∃ (m0n_2 : Nat), s = ptrim_l1_E a0 m0n_2 ∧ ptrim_l1 n a0 fu m0n_2 = some r
def ptrim_R (r : List UInt32 × Nat) : S := ⟨[(2, .c (.sl 0 0 r.2))], [(1000000, kH 0)], [ow 63 r.1]⟩
def ptrim_ct (n : Nat) (r : List UInt32 × Nat) : Ct := ctc aW fun x0 l0 => ctl (fun H => subC 0 r.2 x0) fun ys => ct0 fun H => ([ptrim n l0 = some r], ys, [])
theorem ptrim_ok (n : Nat) (r : List UInt32 × Nat) : FnOk Tryz.prog Tr 44 (ptrim_ct n r) := by
 refine ⟨fun args H g av objs hF hg ρ w vals hG hp ha => ?_, _, Tryz.func44, by kernel_rfl, by kernel_rfl⟩
 obtain ⟨x0, _, l0, rfl, e0, hF⟩ := ctc_inv hF
 obtain ⟨ys, e1, hF⟩ := ctl_inv hF
 obtain ⟨rfl, rfl, rfl, rfl⟩ := ct0_inv hF
 dsimp only
 obtain ⟨v0, vals, rfl, k0, ha⟩ := F2.inv ha
 obtain rfl := F2.inv0 ha
 have h : ptrim n l0 = some r := hg
 obtain ⟨p0, s0, o0⟩ := aW_ok hp e0 (k0) 63
 have kk := k0
 have zz := aW_sz hp e0
 have hR0 := rel0 (gv := (fun j => ([v0] : List Value).getD j undef)) (n := 21) (w := w) (args := [kH 0]) (H := [⟨.ro false, 63, 1, l0.length, .w l0⟩]) (gl := [(1000000, .c (.wh 0))]) (hpL (ps := [p0]) (F2.cons o0 F2.nil)) (allRo_ok rfl) (F2.cons s0 F2.nil) (GlR.cons 0 s0 GlR.nil) (by simp)
 clear ha hp hg hF k0 e0
 refine calls_W Tryz.func44 rfl rfl hR0 (Q := fun e s => (e = .ret ∨ e = .normal) ∧ s = ptrim_R r) ?_ ?_
 ·clear hR0
  unfold ptrim at h
  have hT := tabO_qn
  refine Vrs hT [0] ⟨[(0, kH 0)], [(1000000, kH 0)], [ow 63 l0]⟩ ?_
  refine W_seq ?_
  refine W_block ?_
  refine Vc [.sb 0] [0] (ptrim_l1_E l0 l0.length) (W_lp ((ptrim_l1_P n l0 r)) n ⟨_, rfl, h⟩ ?_)
  rintro fu_l1 _ ⟨m0n_2, rfl, h⟩
  cases fu_l1 with
  | zero => cases h
  | succ fu_l1 =>
   refine ⟨fu_l1, rfl, ?_⟩
   rw [ptrim_l1] at h
   refine W_seq ?_
   refine W_seq ?_
   rcases Bool.eq_false_or_eq_true (decide ((0 : Int) < ((m0n_2 : Nat) : Int))) with g1 | g1
   ·replace h := bif_t h g1
    obtain ⟨g2, g3, g4, h⟩ := gd3 h
    refine Vg hT fN [(3, true)] [] [0] ⟨[(0, .c (.sl 0 0 m0n_2)), (14, kB ((l0.getD ((((m0n_2 : Nat) : Int) - 1).toNat) 0) == 0))], [(1000000, kH 0)], [ow 63 l0]⟩ (aP g1 (aP g2 (aP g3 (aP g4 aN)))) ?_
    refine Vi (((l0.getD ((((m0n_2 : Nat) : Int) - 1).toNat) 0) == 0)) (fun g8 => ?_) (fun g8 => ?_)
    ·replace h := bif_t h g8
     refine W_skip ?_
     refine W_block ?_
     obtain ⟨g5, g6, g7, h⟩ := gd3 h
     refine Vg hT fN [] [] [0] (ptrim_l1_E l0 ((((m0n_2 : Nat) : Int) - 1).toNat)) (aP g5 (aP g6 (aP g7 aN))) ?_
     exact ⟨_, rfl, h⟩
    ·replace h := bif_f h g8
     refine Vc [] [0] ⟨[(0, .c (.sl 0 0 m0n_2))], [(1000000, kH 0)], [ow 63 l0]⟩ (W_exit ?_)
     refine Vrs hT [0] ⟨[(2, .c (.sl 0 0 m0n_2))], [(1000000, kH 0)], [ow 63 l0]⟩ ?_
     refine Vc [] [0] (ptrim_R (l0, m0n_2)) (W_ret ?_)
     exact ⟨.inl rfl, by cases h; rfl⟩
   ·replace h := bif_f h g1
    refine Vg hT fN [(3, false)] [] [0] ⟨[(0, .c (.sl 0 0 m0n_2)), (14, kB false)], [(1000000, kH 0)], [ow 63 l0]⟩ (aP g1 aN) ?_
    refine Vi (false) (fun hb => by cases hb) (fun _ => ?_)
    refine Vc [] [0] ⟨[(0, .c (.sl 0 0 m0n_2))], [(1000000, kH 0)], [ow 63 l0]⟩ (W_exit ?_)
    refine Vrs hT [0] ⟨[(2, .c (.sl 0 0 m0n_2))], [(1000000, kH 0)], [ow 63 l0]⟩ ?_
    refine Vc [] [0] (ptrim_R (l0, m0n_2)) (W_ret ?_)
    exact ⟨.inl rfl, by cases h; rfl⟩
 ·rintro e s' ⟨he, rfl⟩
  refine ⟨he, fun a' w' hr => ?_⟩
  exact retB_ok (q := 0) hr rfl rfl rfl (by kernel_rfl) kk zz e1
def cisNaN_R (r : Bool) : S := ⟨[(2, kB r)], [], []⟩
def cisNaN_ct (n : Nat) (r : Bool) : Ct := ctc rI.rd fun _ l0 => ct0 fun H => ([cisNaN n l0 = some r], shA H.length (kB r), shH H.length [])
theorem cisNaN_ok (n : Nat) (r : Bool) : FnOk Tryz.prog Tr 77 (cisNaN_ct n r) := by
 refine fnok Tryz.func77 ?_
 refine HO_c rI fun l0 _ => HO_0 tabO_qn (cisNaN_R r) [.tmp 2] [] 6 Tryz.func77 fun w hG h => ?_
 unfold cisNaN at h
 have hT := tabO_qn
 refine Vrs hT [] ⟨[(0, kI l0)], [], []⟩ ?_
 refine Vrs hT [] ⟨[(2, kB (l0 != l0))], [], []⟩ ?_
 refine Vc [] [] (cisNaN_R (l0 != l0)) (W_ret ?_)
 exact ⟨.inl rfl, by cases h; rfl⟩
def cCmp_R (r : Int) : S := ⟨[(4, kI r)], [], []⟩
def cCmp_ct (n : Nat) (r : Int) : Ct := ctc rI.rd fun _ l0 => ctc rI.rd fun _ l1 => ct0 fun H => ([cCmp n l0 l1 = some r], shA H.length (kI r), shH H.length [])
theorem cCmp_ok (n : Nat) (r : Int) : FnOk Tryz.prog Tr 45 (cCmp_ct n r) := by
 refine fnok Tryz.func45 ?_
 refine HO_c rI fun l0 _ => HO_c rI fun l1 _ => HO_0 tabO_qn (cCmp_R r) [.tmp 4] [] 20 Tryz.func45 fun w hG h => ?_
 unfold cCmp at h
 have hT := tabO_qn
 refine Vrs hT [] ⟨[(0, kI l0), (1, kI l1)], [], []⟩ ?_
 obtain ⟨r8, g1, h⟩ := bind_some' h
 refine Vgs hT (fT 1 (cisNaN_ok n r8) fN) [] [] [] ⟨[(0, kI l0), (1, kI l1), (5, kB r8)], [], []⟩ (aP g1 aN) ?_
 obtain ⟨r10, g2, h⟩ := bind_some' h
 refine Vgs hT (fT 1 (cisNaN_ok n r10) fN) [] [] [] ⟨[(0, kI l0), (1, kI l1), (5, kB r8), (6, kB r10)], [], []⟩ (aP g2 aN) ?_
 refine W_seq ?_
 refine Vrs hT [] ⟨[(0, kI l0), (1, kI l1), (6, kB r10), (11, kB r8)], [], []⟩ ?_
 refine Vi (r8) (fun g7 => ?_) (fun g7 => ?_)
 ·replace h := bif_t h g7
  refine W_seq ?_
  refine Vrs hT [] ⟨[(12, kB r10)], [], []⟩ ?_
  refine Vi (r10) (fun g3 => ?_) (fun g3 => ?_)
  ·replace h := bif_t h g3
   refine Vrs hT [] ⟨[(4, kI 0)], [], []⟩ ?_
   refine Vc [] [] (cCmp_R 0) (W_ret ?_)
   exact ⟨.inl rfl, by cases h; rfl⟩
  ·replace h := bif_f h g3
   refine W_skip ?_
   refine Vrs hT [] ⟨[(4, kI (-1))], [], []⟩ ?_
   refine Vc [] [] (cCmp_R (-1)) (W_ret ?_)
   exact ⟨.inl rfl, by cases h; rfl⟩
 ·replace h := bif_f h g7
  refine W_skip ?_
  refine W_seq ?_
  refine Vrs hT [] ⟨[(0, kI l0), (1, kI l1), (13, kB r10)], [], []⟩ ?_
  refine Vi (r10) (fun g6 => ?_) (fun g6 => ?_)
  ·replace h := bif_t h g6
   refine Vrs hT [] ⟨[(4, kI 1)], [], []⟩ ?_
   refine Vc [] [] (cCmp_R 1) (W_ret ?_)
   exact ⟨.inl rfl, by cases h; rfl⟩
  ·replace h := bif_f h g6
   refine W_skip ?_
   refine W_seq ?_
   refine Vrs hT [] ⟨[(0, kI l0), (1, kI l1), (16, kB (decide (l0 < l1)))], [], []⟩ ?_
   refine Vi ((decide (l0 < l1))) (fun g5 => ?_) (fun g5 => ?_)
   ·replace h := bif_t h g5
    refine Vrs hT [] ⟨[(4, kI (-1))], [], []⟩ ?_
    refine Vc [] [] (cCmp_R (-1)) (W_ret ?_)
    exact ⟨.inl rfl, by cases h; rfl⟩
   ·replace h := bif_f h g5
    refine W_skip ?_
    refine W_seq ?_
    refine Vrs hT [] ⟨[(19, kB (decide (l1 < l0)))], [], []⟩ ?_
    refine Vi ((decide (l1 < l0))) (fun g4 => ?_) (fun g4 => ?_)
    ·replace h := bif_t h g4
     refine Vrs hT [] ⟨[(4, kI 1)], [], []⟩ ?_
     refine Vc [] [] (cCmp_R 1) (W_ret ?_)
     exact ⟨.inl rfl, by cases h; rfl⟩
    ·replace h := bif_f h g4
     refine W_skip ?_
     refine Vrs hT [] ⟨[(4, kI 0)], [], []⟩ ?_
     refine Vc [] [] (cCmp_R 0) (W_ret ?_)
     exact ⟨.inl rfl, by cases h; rfl⟩
def cisNaN32_R (r : Bool) : S := ⟨[(2, kB r)], [], []⟩
def cisNaN32_ct (n : Nat) (r : Bool) : Ct := ctc rU32.rd fun _ l0 => ct0 fun H => ([cisNaN32 n l0 = some r], shA H.length (kB r), shH H.length [])
theorem cisNaN32_ok (n : Nat) (r : Bool) : FnOk Tryz.prog Tr 78 (cisNaN32_ct n r) := by
 refine fnok Tryz.func78 ?_
 refine HO_c rU32 fun l0 _ => HO_0 tabO_qn (cisNaN32_R r) [.tmp 2] [] 6 Tryz.func78 fun w hG h => ?_
 unfold cisNaN32 at h
 have hT := tabO_qn
 refine Vrs hT [] ⟨[(0, kX l0)], [], []⟩ ?_
 refine Vrs hT [] ⟨[(2, kB (l0 != l0))], [], []⟩ ?_
 refine Vc [] [] (cisNaN32_R (l0 != l0)) (W_ret ?_)
 exact ⟨.inl rfl, by cases h; rfl⟩
def cCmp32_R (r : Int) : S := ⟨[(4, kI r)], [], []⟩
def cCmp32_ct (n : Nat) (r : Int) : Ct := ctc rU32.rd fun _ l0 => ctc rU32.rd fun _ l1 => ct0 fun H => ([cCmp32 n l0 l1 = some r], shA H.length (kI r), shH H.length [])
theorem cCmp32_ok (n : Nat) (r : Int) : FnOk Tryz.prog Tr 46 (cCmp32_ct n r) := by
 refine fnok Tryz.func46 ?_
 refine HO_c rU32 fun l0 _ => HO_c rU32 fun l1 _ => HO_0 tabO_qn (cCmp32_R r) [.tmp 4] [] 20 Tryz.func46 fun w hG h => ?_
 unfold cCmp32 at h
 have hT := tabO_qn
 refine Vrs hT [] ⟨[(0, kX l0), (1, kX l1)], [], []⟩ ?_
 obtain ⟨r8, g1, h⟩ := bind_some' h
 refine Vgs hT (fT 1 (cisNaN32_ok n r8) fN) [] [] [] ⟨[(0, kX l0), (1, kX l1), (5, kB r8)], [], []⟩ (aP g1 aN) ?_
 obtain ⟨r10, g2, h⟩ := bind_some' h
 refine Vgs hT (fT 1 (cisNaN32_ok n r10) fN) [] [] [] ⟨[(0, kX l0), (1, kX l1), (5, kB r8), (6, kB r10)], [], []⟩ (aP g2 aN) ?_
 refine W_seq ?_
 refine Vrs hT [] ⟨[(0, kX l0), (1, kX l1), (6, kB r10), (11, kB r8)], [], []⟩ ?_
 refine Vi (r8) (fun g7 => ?_) (fun g7 => ?_)
 ·replace h := bif_t h g7
  refine W_seq ?_
  refine Vrs hT [] ⟨[(12, kB r10)], [], []⟩ ?_
  refine Vi (r10) (fun g3 => ?_) (fun g3 => ?_)
  ·replace h := bif_t h g3
   refine Vrs hT [] ⟨[(4, kI 0)], [], []⟩ ?_
   refine Vc [] [] (cCmp32_R 0) (W_ret ?_)
   exact ⟨.inl rfl, by cases h; rfl⟩
  ·replace h := bif_f h g3
   refine W_skip ?_
   refine Vrs hT [] ⟨[(4, kI (-1))], [], []⟩ ?_
   refine Vc [] [] (cCmp32_R (-1)) (W_ret ?_)
   exact ⟨.inl rfl, by cases h; rfl⟩
 ·replace h := bif_f h g7
  refine W_skip ?_
  refine W_seq ?_
  refine Vrs hT [] ⟨[(0, kX l0), (1, kX l1), (13, kB r10)], [], []⟩ ?_
  refine Vi (r10) (fun g6 => ?_) (fun g6 => ?_)
  ·replace h := bif_t h g6
   refine Vrs hT [] ⟨[(4, kI 1)], [], []⟩ ?_
   refine Vc [] [] (cCmp32_R 1) (W_ret ?_)
   exact ⟨.inl rfl, by cases h; rfl⟩
  ·replace h := bif_f h g6
   refine W_skip ?_
   refine W_seq ?_
   refine Vrs hT [] ⟨[(0, kX l0), (1, kX l1), (16, kB (decide (l0 < l1)))], [], []⟩ ?_
   refine Vi ((decide (l0 < l1))) (fun g5 => ?_) (fun g5 => ?_)
   ·replace h := bif_t h g5
    refine Vrs hT [] ⟨[(4, kI (-1))], [], []⟩ ?_
    refine Vc [] [] (cCmp32_R (-1)) (W_ret ?_)
    exact ⟨.inl rfl, by cases h; rfl⟩
   ·replace h := bif_f h g5
    refine W_skip ?_
    refine W_seq ?_
    refine Vrs hT [] ⟨[(19, kB (decide (l1 < l0)))], [], []⟩ ?_
    refine Vi ((decide (l1 < l0))) (fun g4 => ?_) (fun g4 => ?_)
    ·replace h := bif_t h g4
     refine Vrs hT [] ⟨[(4, kI 1)], [], []⟩ ?_
     refine Vc [] [] (cCmp32_R 1) (W_ret ?_)
     exact ⟨.inl rfl, by cases h; rfl⟩
    ·replace h := bif_f h g4
     refine W_skip ?_
     refine Vrs hT [] ⟨[(4, kI 0)], [], []⟩ ?_
     refine Vc [] [] (cCmp32_R 0) (W_ret ?_)
     exact ⟨.inl rfl, by cases h; rfl⟩
def pCmp_l1_E (a0 : List UInt32) (a1 : List UInt32) (r9 : List UInt32 × Nat) (r11 : List UInt32 × Nat) (i6_2 : Int) : S := ⟨[(0, kH 0), (1, kH 1), (6, kI i6_2)], [], [⟨(.ro false), 63, 1, r9.2, .w ((a0.drop 0).take r9.2)⟩, ⟨(.ro false), 63, 1, r11.2, .w ((a1.drop 0).take r11.2)⟩]⟩
abbrev pCmp_l1_P (n : Nat) (a0 : List UInt32) (a1 : List UInt32) (r9 : List UInt32 × Nat) (r11 : List UInt32 × Nat) (r : Int) (fu : Nat) : S → Prop := fun s => ∃ (i6_2 : Int), s = pCmp_l1_E a0 a1 r9 r11 i6_2 ∧ pCmp_l1 n a0 a1 r9 r11 fu i6_2 = some r
def pCmp_R (r : Int) : S := ⟨[(4, kI r)], [], []⟩
def pCmp_ct (n : Nat) (r : Int) : Ct := ctc (rW 63).rd fun _ l0 => ctc (rW 63).rd fun _ l1 => ct0 fun H => ([pCmp n l0 l1 = some r], shA H.length (kI r), shH H.length [])
theorem pCmp_ok (n : Nat) (r : Int) : FnOk Tryz.prog Tr 18 (pCmp_ct n r) := by
 refine fnok Tryz.func18 ?_
 refine HO_c (rW 63) fun l0 _ => HO_c (rW 63) fun l1 _ => HO_0 tabO_qn (pCmp_R r) [.tmp 4] [] 39 Tryz.func18 fun w hG h => ?_
 unfold pCmp at h
 have hT := tabO_qn
 refine Vrs hT [0, 1] ⟨[(0, kH 0), (1, kH 1)], [], [ow 63 l0, ow 63 l1]⟩ ?_
 obtain ⟨r9, g1, h⟩ := bind_some' h
 obtain ⟨r11, g2, h⟩ := bind_some' h
 refine Vgs hT (fT 1 (ptrim_ok n r9) (fT 3 (ptrim_ok n r11) fN)) [] [] [0, 1] ⟨[(0, .c (.sl 0 0 r9.2)), (1, .c (.sl 1 0 r11.2))], [], [ow 63 l0, ow 63 l1]⟩ (aP g1 (aP g2 aN)) ?_
 refine W_seq ?_
 obtain ⟨r16, g3, h⟩ := bind_some' h
 refine Vgs hT (fT 4 (cCmp_ok n r16) fN) [] [] [0, 1] ⟨[(0, .c (.sl 0 0 r9.2)), (1, .c (.sl 1 0 r11.2)), (5, kI r16)], [], [ow 63 l0, ow 63 l1]⟩ (aP g3 aN) ?_
 refine Vrs hT [0, 1] ⟨[(0, .c (.sl 0 0 r9.2)), (1, .c (.sl 1 0 r11.2)), (5, kI r16), (18, kB (r16 != 0))], [], [ow 63 l0, ow 63 l1]⟩ ?_
 refine Vi ((r16 != 0)) (fun g13 => ?_) (fun g13 => ?_)
 ·replace h := bif_t h g13
  refine Vrs hT [] ⟨[(4, kI r16)], [], []⟩ ?_
  refine Vc [] [] (pCmp_R r16) (W_ret ?_)
  exact ⟨.inl rfl, by cases h; rfl⟩
 ·replace h := bif_f h g13
  refine W_skip ?_
  refine W_seq ?_
  obtain ⟨g4, h⟩ := gd_some h
  refine Vgs hT fN [] [] [0, 1] ⟨[(0, .c (.sl 0 0 r9.2)), (1, .c (.sl 1 0 r11.2)), (6, kI (((r9.2 : Nat) : Int) - 1))], [], [ow 63 l0, ow 63 l1]⟩ (aP g4 aN) ?_
  refine W_block ?_
  refine Vc [.vw 0 false, .vw 1 false] [2, 3] (pCmp_l1_E l0 l1 r9 r11 (((r9.2 : Nat) : Int) - 1)) (W_lp ((pCmp_l1_P n l0 l1 r9 r11 r)) n ⟨_, rfl, h⟩ ?_)
  rintro fu_l1 _ ⟨i6_2, rfl, h⟩
  cases fu_l1 with
  | zero => cases h
  | succ fu_l1 =>
   refine ⟨fu_l1, rfl, ?_⟩
   rw [pCmp_l1] at h
   refine W_seq ?_
   refine Vrs hT [0, 1] ⟨[(0, kH 0), (1, kH 1), (6, kI i6_2), (24, kB (decide ((0 : Int) ≤ i6_2)))], [], [⟨(.ro false), 63, 1, r9.2, .w ((l0.drop 0).take r9.2)⟩, ⟨(.ro false), 63, 1, r11.2, .w ((l1.drop 0).take r11.2)⟩]⟩ ?_
   refine Vi ((decide ((0 : Int) ≤ i6_2))) (fun g12 => ?_) (fun g12 => ?_)
   ·replace h := bif_t h g12
    refine W_skip ?_
    refine W_seq ?_
    refine W_block ?_
    obtain ⟨g5, g6, g7, g8, h⟩ := gd4 h
    obtain ⟨r35_3, g9, h⟩ := bind_some' h
    refine Vds hT (fT 8 (cCmp32_ok n r35_3) fN) 8 [] [(0, false), (1, false), (6, false), (30, false), (34, false)] [] [0, 1] ⟨[(0, kH 0), (1, kH 1), (6, kI i6_2), (7, kI r35_3)], [], [⟨(.ro false), 63, 1, r9.2, .w ((l0.drop 0).take r9.2)⟩, ⟨(.ro false), 63, 1, r11.2, .w ((l1.drop 0).take r11.2)⟩]⟩ (aP g5 (aP g6 (aP g7 (aP g8 (aP g9 aN))))) ?_
    refine Vrs hT [0, 1] ⟨[(0, kH 0), (1, kH 1), (6, kI i6_2), (7, kI r35_3), (37, kB (r35_3 != 0))], [], [⟨(.ro false), 63, 1, r9.2, .w ((l0.drop 0).take r9.2)⟩, ⟨(.ro false), 63, 1, r11.2, .w ((l1.drop 0).take r11.2)⟩]⟩ ?_
    refine Vi ((r35_3 != 0)) (fun g11 => ?_) (fun g11 => ?_)
    ·replace h := bif_t h g11
     refine Vrs hT [] ⟨[(4, kI r35_3)], [], []⟩ ?_
     refine Vc [] [] (pCmp_R r35_3) (W_ret ?_)
     exact ⟨.inl rfl, by cases h; rfl⟩
    ·replace h := bif_f h g11
     refine W_skip ?_
     obtain ⟨g10, h⟩ := gd_some h
     refine Vg hT fN [] [] [0, 1] (pCmp_l1_E l0 l1 r9 r11 (i6_2 - 1)) (aP g10 aN) ?_
     exact ⟨_, rfl, h⟩
   ·replace h := bif_f h g12
    refine Vc [] [] ⟨[], [], []⟩ (W_exit ?_)
    refine Vrs hT [] ⟨[(4, kI 0)], [], []⟩ ?_
    refine Vc [] [] (pCmp_R 0) (W_ret ?_)
    exact ⟨.inl rfl, by cases h; rfl⟩
def pWrite_j1_E (a0 : List UInt32) (a1 : Int) (r10 : List UInt32 × Nat) (i27_1 : Int) (l6_7 : List UInt8) : S := ⟨[(0, kH 0), (1, kI a1), (6, kH 1), (26, kI (4 * ((r10.2 : Nat) : Int))), (27, kI i27_1)], [], [⟨(.ro false), 63, 1, r10.2, .w ((a0.drop 0).take r10.2)⟩, ⟨.row, 5, 1, a1.toNat, .b l6_7⟩]⟩
abbrev pWrite_j1_P (n : Nat) (a0 : List UInt32) (a1 : Int) (r10 : List UInt32 × Nat) (i27_1 : Int) (k_l1 : (List UInt8) → Int → Option (List UInt8 × Nat × Option Int)) (r : List UInt8 × Nat × Option Int) : S → Prop := fun s => ∃ (l6_7 : List UInt8), s = pWrite_j1_E a0 a1 r10 i27_1 l6_7 ∧ pWrite_j1 n a0 a1 r10 i27_1 k_l1 l6_7 = some r
def pWrite_l1_E (a0 : List UInt32) (a1 : Int) (r10 : List UInt32 × Nat) (l6_5 : List UInt8) (i27_1 : Int) : S := ⟨[(0, kH 0), (1, kI a1), (6, kH 1), (26, kI (4 * ((r10.2 : Nat) : Int))), (27, kI i27_1)], [], [⟨(.ro false), 63, 1, r10.2, .w ((a0.drop 0).take r10.2)⟩, ⟨.row, 5, 1, a1.toNat, .b l6_5⟩]⟩
abbrev pWrite_l1_P (n : Nat) (a0 : List UInt32) (a1 : Int) (r10 : List UInt32 × Nat) (r : List UInt8 × Nat × Option Int) (fu : Nat) : S → Prop := fun s => ∃ (l6_5 : List UInt8), ∃ (i27_1 : Int), s = pWrite_l1_E a0 a1 r10 l6_5 i27_1 ∧ pWrite_l1 n a0 a1 r10 fu l6_5 i27_1 = some r
def pWrite_R (r : List UInt8 × Nat × Option Int) : S := ⟨[(4, kH 0), (5, kE 37 r.2.2)], [], [⟨.row, 5, 1, r.2.1, .b r.1⟩]⟩
def pWrite_ct (n : Nat) (r : List UInt8 × Nat × Option Int) : Ct := ctc (rW 63).rd fun _ l0 => ctc rI.rd fun _ l1 => ct0 fun H => ([pWrite n l0 l1 = some r], shA H.length (.t [.c (.wh 0), .c (.s (.er 37 .i64 r.2.2))]), shH H.length [⟨.row, 5, 1, r.2.1, .b r.1⟩])
theorem pWrite_ok (n : Nat) (r : List UInt8 × Nat × Option Int) : FnOk Tryz.prog Tr 75 (pWrite_ct n r) := by
 refine fnok Tryz.func75 ?_
 refine HO_c (rW 63) fun l0 _ => HO_c rI fun l1 _ => HO_0 tabO_qn (pWrite_R r) [.tmp 4, .tmp 5] [0] 55 Tryz.func75 fun w hG h => ?_
 unfold pWrite at h
 have hT := tabO_qn
 refine Vrs hT [0] ⟨[(0, kH 0), (1, kI l1)], [], [ow 63 l0]⟩ ?_
 obtain ⟨r10, g1, h⟩ := bind_some' h
 refine Vgs hT (fT 1 (ptrim_ok n r10) fN) [] [] [0] ⟨[(0, .c (.sl 0 0 r10.2)), (1, kI l1)], [], [ow 63 l0]⟩ (aP g1 aN) ?_
 refine W_seq ?_
 refine Vrs hT [0] ⟨[(0, .c (.sl 0 0 r10.2)), (1, kI l1), (13, kB (decide ((64 : Int) < ((r10.2 : Nat) : Int))))], [], [ow 63 l0]⟩ ?_
 refine Vi ((decide ((64 : Int) < ((r10.2 : Nat) : Int)))) (fun g23 => ?_) (fun g23 => ?_)
 ·replace h := bif_t h g23
  refine Vrs hT [] ⟨[(4, .c (.nils)), (5, kE 37 (some 4))], [], []⟩ ?_
  refine Vc [.nil 4 5 1 (.b [])] [0] (pWrite_R ([], 0, (some 4))) (W_ret ?_)
  exact ⟨.inl rfl, by cases h; rfl⟩
 ·replace h := bif_f h g23
  refine Vc [] [0] ⟨[(0, .c (.sl 0 0 r10.2)), (1, kI l1)], [], [ow 63 l0]⟩ (W_skip ?_)
  refine W_seq ?_
  refine W_seq ?_
  rcases Bool.eq_false_or_eq_true (decide (l1 < (0 : Int))) with g2 | g2
  ·replace h := bif_t h g2
   refine Vg hT fN [(2, true)] [] [0] ⟨[(0, .c (.sl 0 0 r10.2)), (1, kI l1), (20, kB true)], [], [ow 63 l0]⟩ (aP g2 aN) ?_
   refine Vi (true) (fun _ => ?_) (fun hb => by cases hb)
   refine Vrs hT [] ⟨[(4, .c (.nils)), (5, kE 37 (some 1))], [], []⟩ ?_
   refine Vc [.nil 4 5 1 (.b [])] [0] (pWrite_R ([], 0, (some 1))) (W_ret ?_)
   exact ⟨.inl rfl, by cases h; rfl⟩
  ·replace h := bif_f h g2
   refine Vg hT fN [(2, false)] [] [0] ⟨[(0, .c (.sl 0 0 r10.2)), (1, kI l1), (20, kB (decide ((256 : Int) < l1)))], [], [ow 63 l0]⟩ (aP g2 aN) ?_
   refine Vi ((decide ((256 : Int) < l1))) (fun g22 => ?_) (fun g22 => ?_)
   ·replace h := bif_t h g22
    refine Vrs hT [] ⟨[(4, .c (.nils)), (5, kE 37 (some 1))], [], []⟩ ?_
    refine Vc [.nil 4 5 1 (.b [])] [0] (pWrite_R ([], 0, (some 1))) (W_ret ?_)
    exact ⟨.inl rfl, by cases h; rfl⟩
   ·replace h := bif_f h g22
    refine W_skip ?_
    obtain ⟨g3, g4, g5, h⟩ := gd3 h
    refine Vgs hT fN [] [] [0, 1] ⟨[(0, .c (.sl 0 0 r10.2)), (1, kI l1), (6, kH 1)], [], [ow 63 l0, ⟨.row, 5, 1, l1.toNat, .b (List.replicate l1.toNat 0)⟩]⟩ (aP g3 (aP g4 (aP g5 aN))) ?_
    refine W_seq ?_
    obtain ⟨g6, h⟩ := gd_some h
    refine Vgs hT fN [] [] [0, 1] ⟨[(0, .c (.sl 0 0 r10.2)), (1, kI l1), (6, kH 1), (26, kI (4 * ((r10.2 : Nat) : Int))), (27, kI 0)], [], [ow 63 l0, ⟨.row, 5, 1, l1.toNat, .b (List.replicate l1.toNat 0)⟩]⟩ (aP g6 aN) ?_
    refine W_block ?_
    refine Vc [.vw 0 false] [2, 1] (pWrite_l1_E l0 l1 r10 (List.replicate l1.toNat 0) 0) (W_lp ((pWrite_l1_P n l0 l1 r10 r)) n ⟨_, _, rfl, h⟩ ?_)
    rintro fu_l1 _ ⟨l6_5, i27_1, rfl, h⟩
    cases fu_l1 with
    | zero => cases h
    | succ fu_l1 =>
     refine ⟨fu_l1, rfl, ?_⟩
     rw [pWrite_l1] at h
     refine Vrs hT [0, 1] ⟨[(0, kH 0), (1, kI l1), (6, kH 1), (26, kI (4 * ((r10.2 : Nat) : Int))), (27, kI i27_1), (28, kB (decide (i27_1 < (4 * ((r10.2 : Nat) : Int)))))], [], [⟨(.ro false), 63, 1, r10.2, .w ((l0.drop 0).take r10.2)⟩, ⟨.row, 5, 1, l1.toNat, .b l6_5⟩]⟩ ?_
     refine W_seq ?_
     refine Vi ((decide (i27_1 < (4 * ((r10.2 : Nat) : Int))))) (fun g21 => ?_) (fun g21 => ?_)
     ·replace h := bif_t h g21
      refine Vc [] [0, 1] ⟨[(0, kH 0), (1, kI l1), (6, kH 1), (26, kI (4 * ((r10.2 : Nat) : Int))), (27, kI i27_1)], [], [⟨(.ro false), 63, 1, r10.2, .w ((l0.drop 0).take r10.2)⟩, ⟨.row, 5, 1, l1.toNat, .b l6_5⟩]⟩ (W_skip ?_)
      refine W_join (pWrite_j1_P n l0 l1 r10 i27_1 (pWrite_l1 n l0 l1 r10 fu_l1) r) ?_ ?_
      ·rintro _ ⟨l6_7, rfl, h⟩
       unfold pWrite_j1 at h
       obtain ⟨g7, h⟩ := gd_some h
       refine Vg hT fN [] [] [0, 1] (pWrite_l1_E l0 l1 r10 l6_7 (i27_1 + 1)) (aP g7 aN) ?_
       exact ⟨_, _, rfl, h⟩
      ·refine W_block ?_
       refine Vrs hT [0, 1] ⟨[(0, kH 0), (1, kI l1), (6, kH 1), (7, kI i27_1), (26, kI (4 * ((r10.2 : Nat) : Int))), (27, kI i27_1)], [], [⟨(.ro false), 63, 1, r10.2, .w ((l0.drop 0).take r10.2)⟩, ⟨.row, 5, 1, l1.toNat, .b l6_5⟩]⟩ ?_
       obtain ⟨g8, g9, g10, g11, g12, h⟩ := gd5 h
       obtain ⟨g13, g14, h⟩ := gd2 h
       refine Vgs hT fN [] [] [0, 1] ⟨[(0, kH 0), (1, kI l1), (6, kH 1), (7, kI i27_1), (8, kU ((shr32 (((l0.drop 0).take r10.2).getD ((Int.tdiv i27_1 4).toNat) 0) (8 * (Int.tmod i27_1 4))).toUInt8)), (26, kI (4 * ((r10.2 : Nat) : Int))), (27, kI i27_1)], [], [⟨(.ro false), 63, 1, r10.2, .w ((l0.drop 0).take r10.2)⟩, ⟨.row, 5, 1, l1.toNat, .b l6_5⟩]⟩ (aP g8 (aP g9 (aP g10 (aP g11 (aP g12 (aP g13 (aP g14 aN))))))) ?_
       refine Vrs hT [0, 1] ⟨[(0, kH 0), (1, kI l1), (6, kH 1), (7, kI i27_1), (8, kU ((shr32 (((l0.drop 0).take r10.2).getD ((Int.tdiv i27_1 4).toNat) 0) (8 * (Int.tmod i27_1 4))).toUInt8)), (26, kI (4 * ((r10.2 : Nat) : Int))), (27, kI i27_1), (42, kB (decide (i27_1 < l1)))], [], [⟨(.ro false), 63, 1, r10.2, .w ((l0.drop 0).take r10.2)⟩, ⟨.row, 5, 1, l1.toNat, .b l6_5⟩]⟩ ?_
       refine Vi ((decide (i27_1 < l1))) (fun g20 => ?_) (fun g20 => ?_)
       ·replace h := bif_t h g20
        obtain ⟨g15, g16, g17, g18, h⟩ := gd4 h
        refine Vg hT fN [] [] [0, 1] (pWrite_j1_E l0 l1 r10 i27_1 (l6_5.set (((l1 - 1) - i27_1).toNat) ((shr32 (((l0.drop 0).take r10.2).getD ((Int.tdiv i27_1 4).toNat) 0) (8 * (Int.tmod i27_1 4))).toUInt8))) (aP g15 (aP g16 (aP g17 (aP g18 aN)))) ?_
        exact ⟨_, rfl, h⟩
       ·replace h := bif_f h g20
        refine Vrs hT [0, 1] ⟨[(0, kH 0), (1, kI l1), (6, kH 1), (26, kI (4 * ((r10.2 : Nat) : Int))), (27, kI i27_1), (51, kB (((shr32 (((l0.drop 0).take r10.2).getD ((Int.tdiv i27_1 4).toNat) 0) (8 * (Int.tmod i27_1 4))).toUInt8) != 0))], [], [⟨(.ro false), 63, 1, r10.2, .w ((l0.drop 0).take r10.2)⟩, ⟨.row, 5, 1, l1.toNat, .b l6_5⟩]⟩ ?_
        refine Vi ((((shr32 (((l0.drop 0).take r10.2).getD ((Int.tdiv i27_1 4).toNat) 0) (8 * (Int.tmod i27_1 4))).toUInt8) != 0)) (fun g19 => ?_) (fun g19 => ?_)
        ·replace h := bif_t h g19
         refine Vrs hT [] ⟨[(4, .c (.nils)), (5, kE 37 (some 1))], [], []⟩ ?_
         refine Vc [.nil 4 5 1 (.b [])] [0] (pWrite_R ([], 0, (some 1))) (W_ret ?_)
         exact ⟨.inl rfl, by cases h; rfl⟩
        ·replace h := bif_f h g19
         refine Vc [] [0, 1] (pWrite_j1_E l0 l1 r10 i27_1 l6_5) (W_skip ?_)
         exact ⟨_, rfl, h⟩
     ·replace h := bif_f h g21
      refine Vc [] [1] ⟨[(6, kH 0)], [], [⟨.row, 5, 1, l1.toNat, .b l6_5⟩]⟩ (W_exit ?_)
      refine Vrs hT [0] ⟨[(4, kH 0), (5, .c (.s (.v .nilIface)))], [], [⟨.row, 5, 1, l1.toNat, .b l6_5⟩]⟩ ?_
      refine Vc [.er 5 37 .i64] [0] (pWrite_R (l6_5, l1.toNat, none)) (W_ret ?_)
      exact ⟨.inl rfl, by cases h; rfl⟩
def pBig_j1_E (l4_4 : List UInt8) (m4_4 : Nat) : S := ⟨[(4, kH 0)], [], [⟨(.ro true), 5, 1, m4_4, .b l4_4⟩]⟩
abbrev pBig_j1_P (n : Nat) (r : List UInt8 × Option Int) : S → Prop := fun s => ∃ (l4_4 : List UInt8), ∃ (m4_4 : Nat), s = pBig_j1_E l4_4 m4_4 ∧ pBig_j1 n l4_4 m4_4 = some r
def pBig_l1_E (l4_5 : List UInt8) (m4_5 : Nat) : S := ⟨[(4, kH 0)], [], [⟨(.ro true), 5, 1, m4_5, .b l4_5⟩]⟩
abbrev pBig_l1_P (n : Nat) (r : List UInt8 × Option Int) (fu : Nat) : S → Prop := fun s => ∃ (l4_5 : List UInt8), ∃ (m4_5 : Nat), s = pBig_l1_E l4_5 m4_5 ∧ pBig_l1 n fu l4_5 m4_5 = some r
def pBig_R (r : List UInt8 × Option Int) : S := ⟨[(2, kH 0), (3, kE 37 r.2)], [], [nb 5 r.1]⟩
def pBig_ct (n : Nat) (r : List UInt8 × Option Int) : Ct := ctc (rW 63).rd fun _ l0 => ct0 fun H => ([pBig n l0 = some r], shA H.length (.t [.c (.wh 0), .c (.s (.er 37 .i64 r.2))]), shH H.length [nb 5 r.1])
theorem pBig_ok (n : Nat) (r : List UInt8 × Option Int) : FnOk Tryz.prog Tr 40 (pBig_ct n r) := by
 refine fnok Tryz.func40 ?_
 refine HO_c (rW 63) fun l0 _ => HO_0 tabO_qn (pBig_R r) [.tmp 2, .tmp 3] [0] 28 Tryz.func40 fun w hG h => ?_
 unfold pBig at h
 have hT := tabO_qn
 refine Vrs hT [0] ⟨[(0, kH 0)], [], [ow 63 l0]⟩ ?_
 obtain ⟨r8, g1, h⟩ := bind_some' h
 refine Vgs hT (fT 1 (pWrite_ok n r8) fN) [] [] [1] ⟨[(4, kH 0), (5, kE 37 r8.2.2)], [], [⟨.row, 5, 1, r8.2.1, .b r8.1⟩]⟩ (aP g1 aN) ?_
 refine W_seq ?_
 refine Vrs hT [0] ⟨[(4, kH 0), (12, kB (!((r8.2.2).isNone)))], [], [⟨.row, 5, 1, r8.2.1, .b r8.1⟩]⟩ ?_
 refine Vi ((!((r8.2.2).isNone))) (fun g9 => ?_) (fun g9 => ?_)
 ·replace h := bif_t h g9
  refine Vrs hT [] ⟨[(2, .c (.nils)), (3, kE 37 (some 4))], [], []⟩ ?_
  refine Vc [.nil 2 5 1 (.b [])] [0] (pBig_R ([], (some 4))) (W_ret ?_)
  exact ⟨.inl rfl, by cases h; rfl⟩
 ·replace h := bif_f h g9
  refine W_skip ?_
  obtain ⟨g2, h⟩ := gd_some h
  refine Vgs hT fN [] [] [2] ⟨[(4, kH 0)], [], [nb 5 ([0] ++ r8.1)]⟩ (aP g2 aN) ?_
  refine W_join (pBig_j1_P n r) ?_ ?_
  ·rintro _ ⟨l4_4, m4_4, rfl, h⟩
   unfold pBig_j1 at h
   obtain ⟨g3, h⟩ := gd_some h
   refine Vgs hT (fT 1 cloneb_h fN) [] [] [1] ⟨[(2, kH 0), (3, .c (.s (.v .nilIface)))], [], [nb 5 l4_4]⟩ (aP g3 aN) ?_
   refine Vc [.er 3 37 .i64] [0] (pBig_R (l4_4, none)) (W_ret ?_)
   exact ⟨.inl rfl, by cases h; rfl⟩
  ·refine W_block ?_
   refine Vc [.vw 4 true] [1] (pBig_l1_E ([0] ++ r8.1) (([0] ++ r8.1).length)) (W_lp ((pBig_l1_P n r)) n ⟨_, _, rfl, h⟩ ?_)
   rintro fu_l1 _ ⟨l4_5, m4_5, rfl, h⟩
   cases fu_l1 with
   | zero => cases h
   | succ fu_l1 =>
    refine ⟨fu_l1, rfl, ?_⟩
    rw [pBig_l1] at h
    refine W_seq ?_
    refine W_seq ?_
    rcases Bool.eq_false_or_eq_true (decide ((1 : Int) < ((m4_5 : Nat) : Int))) with g4 | g4
    ·replace h := bif_t h g4
     obtain ⟨r22_4, g5, h⟩ := bind_some' h
     refine Vg hT (fT 5 (pspare_ok n r22_4) fN) [(3, true)] [] [0] ⟨[(4, kH 0), (23, kB r22_4)], [], [⟨(.ro true), 5, 1, m4_5, .b l4_5⟩]⟩ (aP g4 (aP g5 aN)) ?_
     refine Vi (r22_4) (fun g8 => ?_) (fun g8 => ?_)
     ·replace h := bif_t h g8
      refine W_skip ?_
      refine W_block ?_
      obtain ⟨g6, g7, h⟩ := gd2 h
      refine Vg hT fN [] [.vw 4 true] [1] (pBig_l1_E ((l4_5.drop 1).take (m4_5 - 1)) (m4_5 - 1)) (aP g6 (aP g7 aN)) ?_
      exact ⟨_, _, rfl, h⟩
     ·replace h := bif_f h g8
      refine Vc [] [0] (pBig_j1_E l4_5 m4_5) (W_exit ?_)
      exact ⟨_, _, rfl, h⟩
    ·replace h := bif_f h g4
     refine Vg hT fN [(3, false)] [] [0] ⟨[(4, kH 0), (23, kB false)], [], [⟨(.ro true), 5, 1, m4_5, .b l4_5⟩]⟩ (aP g4 aN) ?_
     refine Vi (false) (fun hb => by cases hb) (fun _ => ?_)
     refine Vc [] [0] (pBig_j1_E l4_5 m4_5) (W_exit ?_)
     exact ⟨_, _, rfl, h⟩
def rtrim_l1_E (a0 : List Int) (i3_2 : Int) : S := ⟨[(0, kH 0), (3, kI i3_2)], [(1000000, kH 0)], [oz 3 a0]⟩
abbrev rtrim_l1_P (n : Nat) (a0 : List Int) (r : List Int × Nat) (fu : Nat) : S → Prop := fun s => ∃ (i3_2 : Int), s = rtrim_l1_E a0 i3_2 ∧ rtrim_l1 n a0 fu i3_2 = some r
def rtrim_R (r : List Int × Nat) : S := ⟨[(2, .c (.sl 0 0 r.2))], [(1000000, kH 0)], [oz 3 r.1]⟩
def rtrim_ct (n : Nat) (r : List Int × Nat) : Ct := ctc aZ fun x0 l0 => ctl (fun H => subC 0 r.2 x0) fun ys => ct0 fun H => ([rtrim n l0 = some r], ys, [])
theorem rtrim_ok (n : Nat) (r : List Int × Nat) : FnOk Tryz.prog Tr 52 (rtrim_ct n r) := by
 refine ⟨fun args H g av objs hF hg ρ w vals hG hp ha => ?_, _, Tryz.func52, by kernel_rfl, by kernel_rfl⟩
 obtain ⟨x0, _, l0, rfl, e0, hF⟩ := ctc_inv hF
 obtain ⟨ys, e1, hF⟩ := ctl_inv hF
 obtain ⟨rfl, rfl, rfl, rfl⟩ := ct0_inv hF
 dsimp only
 obtain ⟨v0, vals, rfl, k0, ha⟩ := F2.inv ha
 obtain rfl := F2.inv0 ha
 have h : rtrim n l0 = some r := hg
 obtain ⟨p0, s0, o0⟩ := aZ_ok hp e0 (k0) 3
 have kk := k0
 have zz := aZ_sz hp e0
 have hR0 := rel0 (gv := (fun j => ([v0] : List Value).getD j undef)) (n := 21) (w := w) (args := [kH 0]) (H := [⟨.ro false, 3, 1, l0.length, .z l0⟩]) (gl := [(1000000, .c (.wh 0))]) (hpL (ps := [p0]) (F2.cons o0 F2.nil)) (allRo_ok rfl) (F2.cons s0 F2.nil) (GlR.cons 0 s0 GlR.nil) (by simp)
 clear ha hp hg hF k0 e0
 refine calls_W Tryz.func52 rfl rfl hR0 (Q := fun e s => (e = .ret ∨ e = .normal) ∧ s = rtrim_R r) ?_ ?_
 ·clear hR0
  unfold rtrim at h
  have hT := tabO_qn
  refine Vrs hT [0] ⟨[(0, kH 0)], [(1000000, kH 0)], [oz 3 l0]⟩ ?_
  refine Vrs hT [0] ⟨[(0, kH 0), (3, kI ((l0.length : Nat) : Int))], [(1000000, kH 0)], [oz 3 l0]⟩ ?_
  refine W_seq ?_
  refine W_block ?_
  refine Vc [] [0] (rtrim_l1_E l0 ((l0.length : Nat) : Int)) (W_lp ((rtrim_l1_P n l0 r)) n ⟨_, rfl, h⟩ ?_)
  rintro fu_l1 _ ⟨i3_2, rfl, h⟩
  cases fu_l1 with
  | zero => cases h
  | succ fu_l1 =>
   refine ⟨fu_l1, rfl, ?_⟩
   rw [rtrim_l1] at h
   refine W_seq ?_
   refine W_seq ?_
   rcases Bool.eq_false_or_eq_true (decide ((0 : Int) < i3_2)) with g1 | g1
   ·replace h := bif_t h g1
    obtain ⟨g2, g3, g4, h⟩ := gd3 h
    refine Vg hT fN [(2, true)] [] [0] ⟨[(0, kH 0), (3, kI i3_2), (15, kB ((l0.getD ((i3_2 - 1).toNat) 0) == 0))], [(1000000, kH 0)], [oz 3 l0]⟩ (aP g1 (aP g2 (aP g3 (aP g4 aN)))) ?_
    refine Vi (((l0.getD ((i3_2 - 1).toNat) 0) == 0)) (fun g8 => ?_) (fun g8 => ?_)
    ·replace h := bif_t h g8
     refine W_skip ?_
     refine W_block ?_
     obtain ⟨g5, h⟩ := gd_some h
     refine Vg hT fN [] [] [0] (rtrim_l1_E l0 (i3_2 - 1)) (aP g5 aN) ?_
     exact ⟨_, rfl, h⟩
    ·replace h := bif_f h g8
     refine Vc [] [0] ⟨[(0, kH 0), (3, kI i3_2)], [(1000000, kH 0)], [oz 3 l0]⟩ (W_exit ?_)
     obtain ⟨g6, g7, h⟩ := gd2 h
     refine Vgs hT fN [] [] [0] ⟨[(2, .c (.sl 0 0 i3_2.toNat))], [(1000000, kH 0)], [oz 3 l0]⟩ (aP g6 (aP g7 aN)) ?_
     refine Vc [] [0] (rtrim_R (l0, i3_2.toNat)) (W_ret ?_)
     exact ⟨.inl rfl, by cases h; rfl⟩
   ·replace h := bif_f h g1
    refine Vg hT fN [(2, false)] [] [0] ⟨[(0, kH 0), (3, kI i3_2), (15, kB false)], [(1000000, kH 0)], [oz 3 l0]⟩ (aP g1 aN) ?_
    refine Vi (false) (fun hb => by cases hb) (fun _ => ?_)
    refine Vc [] [0] ⟨[(0, kH 0), (3, kI i3_2)], [(1000000, kH 0)], [oz 3 l0]⟩ (W_exit ?_)
    obtain ⟨g9, g10, h⟩ := gd2 h
    refine Vgs hT fN [] [] [0] ⟨[(2, .c (.sl 0 0 i3_2.toNat))], [(1000000, kH 0)], [oz 3 l0]⟩ (aP g9 (aP g10 aN)) ?_
    refine Vc [] [0] (rtrim_R (l0, i3_2.toNat)) (W_ret ?_)
    exact ⟨.inl rfl, by cases h; rfl⟩
 ·rintro e s' ⟨he, rfl⟩
  refine ⟨he, fun a' w' hr => ?_⟩
  exact retB_ok (q := 0) hr rfl rfl rfl (by kernel_rfl) kk zz e1
def rOf_l1_E (a0 : List UInt32) (z3_2 : List Int) (i4_2 : Int) : S := ⟨[(0, kH 0), (3, kH 1), (4, kI i4_2)], [], [ow 63 a0, nz 3 z3_2]⟩
abbrev rOf_l1_P (n : Nat) (a0 : List UInt32) (r : List Int × Nat) (fu : Nat) : S → Prop := fun s => ∃ (z3_2 : List Int), ∃ (i4_2 : Int), s = rOf_l1_E a0 z3_2 i4_2 ∧ rOf_l1 n a0 fu z3_2 i4_2 = some r
def rOf_R (r : List Int × Nat) : S := ⟨[(2, kH 0)], [], [⟨(.ro true), 3, 1, r.2, .z r.1⟩]⟩
def rOf_ct (n : Nat) (r : List Int × Nat) : Ct := ctc (rW 63).rd fun _ l0 => ct0 fun H => ([rOf n l0 = some r], shA H.length (kH 0), shH H.length [⟨(.ro true), 3, 1, r.2, .z r.1⟩])
theorem rOf_ok (n : Nat) (r : List Int × Nat) : FnOk Tryz.prog Tr 21 (rOf_ct n r) := by
 refine fnok Tryz.func21 ?_
 refine HO_c (rW 63) fun l0 _ => HO_0 tabO_qn (rOf_R r) [.tmp 2] [0] 28 Tryz.func21 fun w hG h => ?_
 unfold rOf at h
 have hT := tabO_qn
 refine Vrs hT [0] ⟨[(0, kH 0)], [], [ow 63 l0]⟩ ?_
 refine Vrs hT [0] ⟨[(0, kH 0), (3, .c (.nils))], [], [ow 63 l0]⟩ ?_
 refine W_seq ?_
 refine Vrs hT [0] ⟨[(0, kH 0), (3, .c (.nils)), (4, kI 0)], [], [ow 63 l0]⟩ ?_
 refine W_block ?_
 refine Vc [.nil 3 3 1 (.z [])] [0, 1] (rOf_l1_E l0 [] 0) (W_lp ((rOf_l1_P n l0 r)) n ⟨_, _, rfl, h⟩ ?_)
 rintro fu_l1 _ ⟨z3_2, i4_2, rfl, h⟩
 cases fu_l1 with
 | zero => cases h
 | succ fu_l1 =>
  refine ⟨fu_l1, rfl, ?_⟩
  rw [rOf_l1] at h
  refine W_seq ?_
  refine Vrs hT [0, 1] ⟨[(0, kH 0), (3, kH 1), (4, kI i4_2), (8, kB (decide (i4_2 < ((l0.length : Nat) : Int))))], [], [ow 63 l0, nz 3 z3_2]⟩ ?_
  refine Vi ((decide (i4_2 < ((l0.length : Nat) : Int)))) (fun g10 => ?_) (fun g10 => ?_)
  ·replace h := bif_t h g10
   refine W_skip ?_
   refine W_seq ?_
   refine W_block ?_
   obtain ⟨g1, g2, g3, g4, g5, h⟩ := gd5 h
   obtain ⟨g6, g7, h⟩ := gd2 h
   refine Vd hT fN 14 [] [(0, false), (3, false), (4, false), (11, false), (24, false)] [] [0, 3] ⟨[(0, kH 0), (3, kH 1), (4, kI i4_2)], [], [ow 63 l0, nz 3 (z3_2 ++ [((((l0.getD i4_2.toNat 0) % (65536 : UInt32)).toNat : Nat) : Int), ((((l0.getD i4_2.toNat 0) / (65536 : UInt32)).toNat : Nat) : Int)])]⟩ (aP g1 (aP g2 (aP g3 (aP g4 (aP g5 (aP g6 (aP g7 aN))))))) ?_
   obtain ⟨g8, h⟩ := gd_some h
   refine Vg hT fN [] [] [0, 1] (rOf_l1_E l0 (z3_2 ++ [((((l0.getD i4_2.toNat 0) % (65536 : UInt32)).toNat : Nat) : Int), ((((l0.getD i4_2.toNat 0) / (65536 : UInt32)).toNat : Nat) : Int)]) (i4_2 + 1)) (aP g8 aN) ?_
   exact ⟨_, _, rfl, h⟩
  ·replace h := bif_f h g10
   refine Vc [] [1] ⟨[(3, kH 0)], [], [nz 3 z3_2]⟩ (W_exit ?_)
   obtain ⟨r27_2, g9, h⟩ := bind_some' h
   refine Vgs hT (fT 1 (rtrim_ok n r27_2) fN) [] [] [0] ⟨[(2, .c (.sl 0 0 r27_2.2))], [], [nz 3 z3_2]⟩ (aP g9 aN) ?_
   refine Vc [.vw 2 true] [1] (rOf_R (((z3_2.drop 0).take r27_2.2), r27_2.2)) (W_ret ?_)
   exact ⟨.inl rfl, by cases h; rfl⟩
def rCmp_l1_E (a0 : List Int) (a1 : List Int) (i5_2 : Int) : S := ⟨[(0, kH 0), (1, kH 1), (5, kI i5_2)], [], [oz 3 a0, oz 3 a1]⟩
abbrev rCmp_l1_P (n : Nat) (a0 : List Int) (a1 : List Int) (r : Int) (fu : Nat) : S → Prop := fun s => ∃ (i5_2 : Int), s = rCmp_l1_E a0 a1 i5_2 ∧ rCmp_l1 n a0 a1 fu i5_2 = some r
def rCmp_R (r : Int) : S := ⟨[(4, kI r)], [], []⟩
def rCmp_ct (n : Nat) (r : Int) : Ct := ctc (rZ 3).rd fun _ l0 => ctc (rZ 3).rd fun _ l1 => ct0 fun H => ([rCmp n l0 l1 = some r], shA H.length (kI r), shH H.length [])
theorem rCmp_ok (n : Nat) (r : Int) : FnOk Tryz.prog Tr 51 (rCmp_ct n r) := by
 refine fnok Tryz.func51 ?_
 refine HO_c (rZ 3) fun l0 _ => HO_c (rZ 3) fun l1 _ => HO_0 tabO_qn (rCmp_R r) [.tmp 4] [] 41 Tryz.func51 fun w hG h => ?_
 unfold rCmp at h
 have hT := tabO_qn
 refine Vrs hT [0, 1] ⟨[(0, kH 0), (1, kH 1)], [], [oz 3 l0, oz 3 l1]⟩ ?_
 refine W_seq ?_
 refine Vrs hT [0, 1] ⟨[(0, kH 0), (1, kH 1), (10, kB (((l0.length : Nat) : Int) != ((l1.length : Nat) : Int)))], [], [oz 3 l0, oz 3 l1]⟩ ?_
 refine Vi ((((l0.length : Nat) : Int) != ((l1.length : Nat) : Int))) (fun g15 => ?_) (fun g15 => ?_)
 ·replace h := bif_t h g15
  refine W_seq ?_
  refine Vrs hT [] ⟨[(15, kB (decide (((l0.length : Nat) : Int) < ((l1.length : Nat) : Int))))], [], []⟩ ?_
  refine Vi ((decide (((l0.length : Nat) : Int) < ((l1.length : Nat) : Int)))) (fun g1 => ?_) (fun g1 => ?_)
  ·replace h := bif_t h g1
   refine Vrs hT [] ⟨[(4, kI (-1))], [], []⟩ ?_
   refine Vc [] [] (rCmp_R (-1)) (W_ret ?_)
   exact ⟨.inl rfl, by cases h; rfl⟩
  ·replace h := bif_f h g1
   refine W_skip ?_
   refine Vrs hT [] ⟨[(4, kI 1)], [], []⟩ ?_
   refine Vc [] [] (rCmp_R 1) (W_ret ?_)
   exact ⟨.inl rfl, by cases h; rfl⟩
 ·replace h := bif_f h g15
  refine W_skip ?_
  refine W_seq ?_
  obtain ⟨g2, h⟩ := gd_some h
  refine Vgs hT fN [] [] [0, 1] ⟨[(0, kH 0), (1, kH 1), (5, kI (((l0.length : Nat) : Int) - 1))], [], [oz 3 l0, oz 3 l1]⟩ (aP g2 aN) ?_
  refine W_block ?_
  refine Vc [] [0, 1] (rCmp_l1_E l0 l1 (((l0.length : Nat) : Int) - 1)) (W_lp ((rCmp_l1_P n l0 l1 r)) n ⟨_, rfl, h⟩ ?_)
  rintro fu_l1 _ ⟨i5_2, rfl, h⟩
  cases fu_l1 with
  | zero => cases h
  | succ fu_l1 =>
   refine ⟨fu_l1, rfl, ?_⟩
   rw [rCmp_l1] at h
   refine W_seq ?_
   refine Vrs hT [0, 1] ⟨[(0, kH 0), (1, kH 1), (5, kI i5_2), (20, kB (decide ((0 : Int) ≤ i5_2)))], [], [oz 3 l0, oz 3 l1]⟩ ?_
   refine Vi ((decide ((0 : Int) ≤ i5_2))) (fun g14 => ?_) (fun g14 => ?_)
   ·replace h := bif_t h g14
    refine W_skip ?_
    refine W_seq ?_
    refine W_block ?_
    obtain ⟨g3, g4, g5, g6, h⟩ := gd4 h
    refine Vds hT fN 8 [] [(0, false), (1, false), (5, false), (26, false), (30, false)] [] [0, 1] ⟨[(0, kH 0), (1, kH 1), (5, kI i5_2), (31, kB ((l0.getD i5_2.toNat 0) != (l1.getD i5_2.toNat 0)))], [], [oz 3 l0, oz 3 l1]⟩ (aP g3 (aP g4 (aP g5 (aP g6 aN)))) ?_
    refine Vi (((l0.getD i5_2.toNat 0) != (l1.getD i5_2.toNat 0))) (fun g13 => ?_) (fun g13 => ?_)
    ·replace h := bif_t h g13
     refine W_seq ?_
     obtain ⟨g7, g8, g9, g10, h⟩ := gd4 h
     refine Vds hT fN 8 [] [(35, false), (39, false)] [] [] ⟨[(40, kB (decide ((l0.getD i5_2.toNat 0) < (l1.getD i5_2.toNat 0))))], [], []⟩ (aP g7 (aP g8 (aP g9 (aP g10 aN)))) ?_
     refine Vi ((decide ((l0.getD i5_2.toNat 0) < (l1.getD i5_2.toNat 0)))) (fun g11 => ?_) (fun g11 => ?_)
     ·replace h := bif_t h g11
      refine Vrs hT [] ⟨[(4, kI (-1))], [], []⟩ ?_
      refine Vc [] [] (rCmp_R (-1)) (W_ret ?_)
      exact ⟨.inl rfl, by cases h; rfl⟩
     ·replace h := bif_f h g11
      refine W_skip ?_
      refine Vrs hT [] ⟨[(4, kI 1)], [], []⟩ ?_
      refine Vc [] [] (rCmp_R 1) (W_ret ?_)
      exact ⟨.inl rfl, by cases h; rfl⟩
    ·replace h := bif_f h g13
     refine W_skip ?_
     obtain ⟨g12, h⟩ := gd_some h
     refine Vg hT fN [] [] [0, 1] (rCmp_l1_E l0 l1 (i5_2 - 1)) (aP g12 aN) ?_
     exact ⟨_, rfl, h⟩
   ·replace h := bif_f h g14
    refine Vc [] [] ⟨[], [], []⟩ (W_exit ?_)
    refine Vrs hT [] ⟨[(4, kI 0)], [], []⟩ ?_
    refine Vc [] [] (rCmp_R 0) (W_ret ?_)
    exact ⟨.inl rfl, by cases h; rfl⟩
def rSize_j1_E (i3_2 : Int) : S := ⟨[(3, kI i3_2)], [], []⟩
abbrev rSize_j1_P (n : Nat) (r : Int) : S → Prop := fun s => ∃ (i3_2 : Int), s = rSize_j1_E i3_2 ∧ rSize_j1 n i3_2 = some r
def rSize_R (r : Int) : S := ⟨[(2, kI r)], [], []⟩
def rSize_ct (n : Nat) (r : Int) : Ct := ctc (rZ 3).rd fun _ l0 => ct0 fun H => ([rSize n l0 = some r], shA H.length (kI r), shH H.length [])
theorem rSize_ok (n : Nat) (r : Int) : FnOk Tryz.prog Tr 49 (rSize_ct n r) := by
 refine fnok Tryz.func49 ?_
 refine HO_c (rZ 3) fun l0 _ => HO_0 tabO_qn (rSize_R r) [.tmp 2] [] 21 Tryz.func49 fun w hG h => ?_
 unfold rSize at h
 have hT := tabO_qn
 refine Vrs hT [0] ⟨[(0, kH 0)], [], [oz 3 l0]⟩ ?_
 obtain ⟨g1, h⟩ := gd_some h
 refine Vgs hT fN [] [] [0] ⟨[(0, kH 0), (3, kI (2 * ((l0.length : Nat) : Int)))], [], [oz 3 l0]⟩ (aP g1 aN) ?_
 refine W_join (rSize_j1_P n r) ?_ ?_
 ·rintro _ ⟨i3_2, rfl, h⟩
  unfold rSize_j1 at h
  refine Vrs hT [] ⟨[(2, kI i3_2)], [], []⟩ ?_
  refine Vc [] [] (rSize_R i3_2) (W_ret ?_)
  exact ⟨.inl rfl, by cases h; rfl⟩
 ·refine W_seq ?_
  rcases Bool.eq_false_or_eq_true (decide ((0 : Int) < (2 * ((l0.length : Nat) : Int)))) with g2 | g2
  ·replace h := bif_t h g2
   obtain ⟨g3, g4, g5, h⟩ := gd3 h
   refine Vg hT fN [(2, true)] [] [] ⟨[(3, kI (2 * ((l0.length : Nat) : Int))), (17, kB (decide ((l0.getD ((((l0.length : Nat) : Int) - 1).toNat) 0) < (256 : Int))))], [], []⟩ (aP g2 (aP g3 (aP g4 (aP g5 aN)))) ?_
   refine Vi ((decide ((l0.getD ((((l0.length : Nat) : Int) - 1).toNat) 0) < (256 : Int)))) (fun g7 => ?_) (fun g7 => ?_)
   ·replace h := bif_t h g7
    obtain ⟨g6, h⟩ := gd_some h
    refine Vg hT fN [] [] [] (rSize_j1_E ((2 * ((l0.length : Nat) : Int)) - 1)) (aP g6 aN) ?_
    exact ⟨_, rfl, h⟩
   ·replace h := bif_f h g7
    refine Vc [] [] (rSize_j1_E (2 * ((l0.length : Nat) : Int))) (W_skip ?_)
    exact ⟨_, rfl, h⟩
  ·replace h := bif_f h g2
   refine Vg hT fN [(2, false)] [] [] ⟨[(3, kI (2 * ((l0.length : Nat) : Int))), (17, kB false)], [], []⟩ (aP g2 aN) ?_
   refine Vi (false) (fun hb => by cases hb) (fun _ => ?_)
   refine Vc [] [] (rSize_j1_E (2 * ((l0.length : Nat) : Int))) (W_skip ?_)
   exact ⟨_, rfl, h⟩
def rWrite_j1_E (a0 : List Int) (a1 : Int) (l6_1 : List UInt8) (i7_1 : Int) (i8_5 : Int) : S := ⟨[(0, kH 0), (1, kI a1), (6, kH 1), (7, kI i7_1), (8, kI i8_5)], [], [oz 3 a0, ⟨.row, 5, 1, a1.toNat, .b l6_1⟩]⟩
abbrev rWrite_j1_P (n : Nat) (a0 : List Int) (a1 : Int) (l6_1 : List UInt8) (i7_1 : Int) (k_l1 : (List UInt8) → Int → Option (List UInt8 × Nat × Bool)) (r : List UInt8 × Nat × Bool) : S → Prop := fun s => ∃ (i8_5 : Int), s = rWrite_j1_E a0 a1 l6_1 i7_1 i8_5 ∧ rWrite_j1 n a0 a1 l6_1 i7_1 k_l1 i8_5 = some r
def rWrite_l1_E (a0 : List Int) (a1 : Int) (l6_1 : List UInt8) (i7_1 : Int) : S := ⟨[(0, kH 0), (1, kI a1), (6, kH 1), (7, kI i7_1)], [], [oz 3 a0, ⟨.row, 5, 1, a1.toNat, .b l6_1⟩]⟩
abbrev rWrite_l1_P (n : Nat) (a0 : List Int) (a1 : Int) (r : List UInt8 × Nat × Bool) (fu : Nat) : S → Prop := fun s => ∃ (l6_1 : List UInt8), ∃ (i7_1 : Int), s = rWrite_l1_E a0 a1 l6_1 i7_1 ∧ rWrite_l1 n a0 a1 fu l6_1 i7_1 = some r
def rWrite_R (r : List UInt8 × Nat × Bool) : S := ⟨[(4, kH 0), (5, kB r.2.2)], [], [⟨.row, 5, 1, r.2.1, .b r.1⟩]⟩
def rWrite_ct (n : Nat) (r : List UInt8 × Nat × Bool) : Ct := ctc (rZ 3).rd fun _ l0 => ctc rI.rd fun _ l1 => ct0 fun H => ([rWrite n l0 l1 = some r], shA H.length (.t [.c (.wh 0), .c (.s (.b r.2.2))]), shH H.length [⟨.row, 5, 1, r.2.1, .b r.1⟩])
theorem rWrite_ok (n : Nat) (r : List UInt8 × Nat × Bool) : FnOk Tryz.prog Tr 82 (rWrite_ct n r) := by
 refine fnok Tryz.func82 ?_
 refine HO_c (rZ 3) fun l0 _ => HO_c rI fun l1 _ => HO_0 tabO_qn (rWrite_R r) [.tmp 4, .tmp 5] [0] 51 Tryz.func82 fun w hG h => ?_
 unfold rWrite at h
 have hT := tabO_qn
 refine Vrs hT [0] ⟨[(0, kH 0), (1, kI l1)], [], [oz 3 l0]⟩ ?_
 refine W_seq ?_
 refine W_seq ?_
 rcases Bool.eq_false_or_eq_true (decide (l1 < (0 : Int))) with g1 | g1
 ·replace h := bif_t h g1
  refine Vg hT fN [(2, true)] [] [0] ⟨[(0, kH 0), (1, kI l1), (16, kB true)], [], [oz 3 l0]⟩ (aP g1 aN) ?_
  refine Vi (true) (fun _ => ?_) (fun hb => by cases hb)
  refine Vrs hT [] ⟨[(4, .c (.nils)), (5, kB false)], [], []⟩ ?_
  refine Vc [.nil 4 5 1 (.b [])] [0] (rWrite_R ([], 0, false)) (W_ret ?_)
  exact ⟨.inl rfl, by cases h; rfl⟩
 ·replace h := bif_f h g1
  obtain ⟨r13, g2, h⟩ := bind_some' h
  refine Vg hT (fT 4 (rSize_ok n r13) fN) [(2, false)] [] [0] ⟨[(0, kH 0), (1, kI l1), (16, kB (decide (l1 < r13)))], [], [oz 3 l0]⟩ (aP g1 (aP g2 aN)) ?_
  refine Vi ((decide (l1 < r13))) (fun g24 => ?_) (fun g24 => ?_)
  ·replace h := bif_t h g24
   refine Vrs hT [] ⟨[(4, .c (.nils)), (5, kB false)], [], []⟩ ?_
   refine Vc [.nil 4 5 1 (.b [])] [0] (rWrite_R ([], 0, false)) (W_ret ?_)
   exact ⟨.inl rfl, by cases h; rfl⟩
  ·replace h := bif_f h g24
   refine W_skip ?_
   obtain ⟨g3, g4, g5, h⟩ := gd3 h
   refine Vgs hT fN [] [] [0, 1] ⟨[(0, kH 0), (1, kI l1), (6, kH 1)], [], [oz 3 l0, ⟨.row, 5, 1, l1.toNat, .b (List.replicate l1.toNat 0)⟩]⟩ (aP g3 (aP g4 (aP g5 aN))) ?_
   refine W_seq ?_
   refine Vrs hT [0, 1] ⟨[(0, kH 0), (1, kI l1), (6, kH 1), (7, kI 0)], [], [oz 3 l0, ⟨.row, 5, 1, l1.toNat, .b (List.replicate l1.toNat 0)⟩]⟩ ?_
   refine W_block ?_
   refine Vc [] [0, 1] (rWrite_l1_E l0 l1 (List.replicate l1.toNat 0) 0) (W_lp ((rWrite_l1_P n l0 l1 r)) n ⟨_, _, rfl, h⟩ ?_)
   rintro fu_l1 _ ⟨l6_1, i7_1, rfl, h⟩
   cases fu_l1 with
   | zero => cases h
   | succ fu_l1 =>
    refine ⟨fu_l1, rfl, ?_⟩
    rw [rWrite_l1] at h
    refine W_seq ?_
    refine W_seq ?_
    rcases Bool.eq_false_or_eq_true (decide (i7_1 < l1)) with g6 | g6
    ·replace h := bif_t h g6
     obtain ⟨g7, g8, h⟩ := gd2 h
     refine Vg hT fN [(3, true)] [] [0, 1] ⟨[(0, kH 0), (1, kI l1), (6, kH 1), (7, kI i7_1), (28, kB (decide ((Int.tdiv i7_1 2) < ((l0.length : Nat) : Int))))], [], [oz 3 l0, ⟨.row, 5, 1, l1.toNat, .b l6_1⟩]⟩ (aP g6 (aP g7 (aP g8 aN))) ?_
     refine Vi ((decide ((Int.tdiv i7_1 2) < ((l0.length : Nat) : Int)))) (fun g23 => ?_) (fun g23 => ?_)
     ·replace h := bif_t h g23
      refine W_skip ?_
      refine W_seq ?_
      refine W_block ?_
      obtain ⟨g9, g10, g11, g12, h⟩ := gd4 h
      refine Vgs hT fN [] [] [0, 1] ⟨[(0, kH 0), (1, kI l1), (6, kH 1), (7, kI i7_1), (8, kI (l0.getD ((Int.tdiv i7_1 2).toNat) 0))], [], [oz 3 l0, ⟨.row, 5, 1, l1.toNat, .b l6_1⟩]⟩ (aP g9 (aP g10 (aP g11 (aP g12 aN)))) ?_
      refine W_join (rWrite_j1_P n l0 l1 l6_1 i7_1 (rWrite_l1 n l0 l1 fu_l1) r) ?_ ?_
      ·rintro _ ⟨i8_5, rfl, h⟩
       unfold rWrite_j1 at h
       obtain ⟨g13, g14, g15, g16, g17, h⟩ := gd5 h
       refine Vg hT fN [] [] [0, 1] ⟨[(0, kH 0), (1, kI l1), (6, kH 1), (7, kI i7_1)], [], [oz 3 l0, ⟨.row, 5, 1, l1.toNat, .b (l6_1.set (((l1 - 1) - i7_1).toNat) (UInt8.ofInt (Int.tmod i8_5 256)))⟩]⟩ (aP g13 (aP g14 (aP g15 (aP g16 (aP g17 aN))))) ?_
       obtain ⟨g18, h⟩ := gd_some h
       refine Vg hT fN [] [] [0, 1] (rWrite_l1_E l0 l1 (l6_1.set (((l1 - 1) - i7_1).toNat) (UInt8.ofInt (Int.tmod i8_5 256))) (i7_1 + 1)) (aP g18 aN) ?_
       exact ⟨_, _, rfl, h⟩
      ·refine W_seq ?_
       obtain ⟨g19, h⟩ := gd_some h
       refine Vg hT fN [] [] [0, 1] ⟨[(0, kH 0), (1, kI l1), (6, kH 1), (7, kI i7_1), (8, kI (l0.getD ((Int.tdiv i7_1 2).toNat) 0)), (38, kB ((Int.tmod i7_1 2) == 1))], [], [oz 3 l0, ⟨.row, 5, 1, l1.toNat, .b l6_1⟩]⟩ (aP g19 aN) ?_
       refine Vi (((Int.tmod i7_1 2) == 1)) (fun g22 => ?_) (fun g22 => ?_)
       ·replace h := bif_t h g22
        obtain ⟨g20, g21, h⟩ := gd2 h
        refine Vg hT fN [] [] [0, 1] (rWrite_j1_E l0 l1 l6_1 i7_1 (Int.tdiv (l0.getD ((Int.tdiv i7_1 2).toNat) 0) 256)) (aP g20 (aP g21 aN)) ?_
        exact ⟨_, rfl, h⟩
       ·replace h := bif_f h g22
        refine Vc [] [0, 1] (rWrite_j1_E l0 l1 l6_1 i7_1 (l0.getD ((Int.tdiv i7_1 2).toNat) 0)) (W_skip ?_)
        exact ⟨_, rfl, h⟩
     ·replace h := bif_f h g23
      refine Vc [] [1] ⟨[(6, kH 0)], [], [⟨.row, 5, 1, l1.toNat, .b l6_1⟩]⟩ (W_exit ?_)
      refine Vrs hT [0] ⟨[(4, kH 0), (5, kB true)], [], [⟨.row, 5, 1, l1.toNat, .b l6_1⟩]⟩ ?_
      refine Vc [] [0] (rWrite_R (l6_1, l1.toNat, true)) (W_ret ?_)
      exact ⟨.inl rfl, by cases h; rfl⟩
    ·replace h := bif_f h g6
     refine Vg hT fN [(3, false)] [] [0, 1] ⟨[(0, kH 0), (1, kI l1), (6, kH 1), (7, kI i7_1), (28, kB false)], [], [oz 3 l0, ⟨.row, 5, 1, l1.toNat, .b l6_1⟩]⟩ (aP g6 aN) ?_
     refine Vi (false) (fun hb => by cases hb) (fun _ => ?_)
     refine Vc [] [1] ⟨[(6, kH 0)], [], [⟨.row, 5, 1, l1.toNat, .b l6_1⟩]⟩ (W_exit ?_)
     refine Vrs hT [0] ⟨[(4, kH 0), (5, kB true)], [], [⟨.row, 5, 1, l1.toNat, .b l6_1⟩]⟩ ?_
     refine Vc [] [0] (rWrite_R (l6_1, l1.toNat, true)) (W_ret ?_)
     exact ⟨.inl rfl, by cases h; rfl⟩
def rBig_R (r : List UInt8 × Nat) : S := ⟨[(2, kH 0)], [], [⟨.row, 5, 1, r.2, .b r.1⟩]⟩
def rBig_ct (n : Nat) (r : List UInt8 × Nat) : Ct := ctc (rW 63).rd fun _ l0 => ct0 fun H => ([rBig n l0 = some r], shA H.length (kH 0), shH H.length [⟨.row, 5, 1, r.2, .b r.1⟩])
theorem rBig_ok (n : Nat) (r : List UInt8 × Nat) : FnOk Tryz.prog Tr 53 (rBig_ct n r) := by
 refine fnok Tryz.func53 ?_
 refine HO_c (rW 63) fun l0 _ => HO_0 tabO_qn (rBig_R r) [.tmp 2] [0] 28 Tryz.func53 fun w hG h => ?_
 unfold rBig at h
 have hT := tabO_qn
 refine Vrs hT [0] ⟨[(0, kH 0)], [], [ow 63 l0]⟩ ?_
 obtain ⟨r7, g1, h⟩ := bind_some' h
 refine Vgs hT (fT 1 (rOf_ok n r7) fN) [] [] [1] ⟨[(3, kH 0)], [], [⟨(.ro true), 3, 1, r7.2, .z r7.1⟩]⟩ (aP g1 aN) ?_
 obtain ⟨r11, g2, h⟩ := bind_some' h
 obtain ⟨r12, g3, h⟩ := bind_some' h
 refine Vgs hT (fT 2 (rSize_ok n r11) (fT 3 (rWrite_ok n r12) fN)) [] [] [1] ⟨[(4, kH 0)], [], [⟨.row, 5, 1, r12.2.1, .b r12.1⟩]⟩ (aP g2 (aP g3 aN)) ?_
 refine W_seq ?_
 refine W_seq ?_
 rcases Bool.eq_false_or_eq_true (((r12.2.1 : Nat) : Int) == 0) with g4 | g4
 ·replace h := bif_t h g4
  refine Vg hT fN [(3, true)] [] [0] ⟨[(4, kH 0), (23, kB true)], [], [⟨.row, 5, 1, r12.2.1, .b r12.1⟩]⟩ (aP g4 aN) ?_
  refine Vi (true) (fun _ => ?_) (fun hb => by cases hb)
  obtain ⟨g5, h⟩ := gd_some h
  refine Vgs hT fN [] [] [2] ⟨[(2, kH 0)], [], [nb 5 ([0] ++ r12.1)]⟩ (aP g5 aN) ?_
  refine Vc [] [0] (rBig_R (([0] ++ r12.1), ([0] ++ r12.1).length)) (W_ret ?_)
  exact ⟨.inl rfl, by cases h; rfl⟩
 ·replace h := bif_f h g4
  obtain ⟨g6, g7, h⟩ := gd2 h
  refine Vg hT fN [(3, false)] [] [0] ⟨[(4, kH 0), (23, kB (decide ((128 : UInt8) ≤ (r12.1.getD 0 0))))], [], [⟨.row, 5, 1, r12.2.1, .b r12.1⟩]⟩ (aP g4 (aP g6 (aP g7 aN))) ?_
  refine Vi ((decide ((128 : UInt8) ≤ (r12.1.getD 0 0)))) (fun g9 => ?_) (fun g9 => ?_)
  ·replace h := bif_t h g9
   obtain ⟨g8, h⟩ := gd_some h
   refine Vgs hT fN [] [] [2] ⟨[(2, kH 0)], [], [nb 5 ([0] ++ r12.1)]⟩ (aP g8 aN) ?_
   refine Vc [] [0] (rBig_R (([0] ++ r12.1), ([0] ++ r12.1).length)) (W_ret ?_)
   exact ⟨.inl rfl, by cases h; rfl⟩
  ·replace h := bif_f h g9
   refine W_skip ?_
   refine Vrs hT [0] ⟨[(2, kH 0)], [], [⟨.row, 5, 1, r12.2.1, .b r12.1⟩]⟩ ?_
   refine Vc [] [0] (rBig_R (r12.1, r12.2.1)) (W_ret ?_)
   exact ⟨.inl rfl, by cases h; rfl⟩
def rdigit_R (r : Int) : S := ⟨[(4, kI r)], [], []⟩
def rdigit_ct (n : Nat) (r : Int) : Ct := ctc (rZ 3).rd fun _ l0 => ctc rI.rd fun _ l1 => ct0 fun H => ([rdigit n l0 l1 = some r], shA H.length (kI r), shH H.length [])
theorem rdigit_ok (n : Nat) (r : Int) : FnOk Tryz.prog Tr 83 (rdigit_ct n r) := by
 refine fnok Tryz.func83 ?_
 refine HO_c (rZ 3) fun l0 _ => HO_c rI fun l1 _ => HO_0 tabO_qn (rdigit_R r) [.tmp 4] [] 13 Tryz.func83 fun w hG h => ?_
 unfold rdigit at h
 have hT := tabO_qn
 refine Vrs hT [0] ⟨[(0, kH 0), (1, kI l1)], [], [oz 3 l0]⟩ ?_
 refine W_seq ?_
 refine Vrs hT [0] ⟨[(0, kH 0), (1, kI l1), (8, kB (decide (l1 < ((l0.length : Nat) : Int))))], [], [oz 3 l0]⟩ ?_
 refine Vi ((decide (l1 < ((l0.length : Nat) : Int)))) (fun g3 => ?_) (fun g3 => ?_)
 ·replace h := bif_t h g3
  obtain ⟨g1, g2, h⟩ := gd2 h
  refine Vgs hT fN [] [] [] ⟨[(4, kI (l0.getD l1.toNat 0))], [], []⟩ (aP g1 (aP g2 aN)) ?_
  refine Vc [] [] (rdigit_R (l0.getD l1.toNat 0)) (W_ret ?_)
  exact ⟨.inl rfl, by cases h; rfl⟩
 ·replace h := bif_f h g3
  refine Vc [] [] ⟨[], [], []⟩ (W_skip ?_)
  refine Vrs hT [] ⟨[(4, kI 0)], [], []⟩ ?_
  refine Vc [] [] (rdigit_R 0) (W_ret ?_)
  exact ⟨.inl rfl, by cases h; rfl⟩
def rMul_l2_E (a0 : List Int) (a1 : List Int) (i6_2 : Int) (z5_11 : List Int) (i7_8 : Int) (i8_8 : Int) : S := ⟨[(0, kH 0), (1, kH 1), (5, kH 2), (6, kI i6_2), (7, kI i7_8), (8, kI i8_8)], [], [oz 3 a0, oz 3 a1, ⟨.row, 3, 1, (((a0.length : Nat) : Int) + ((a1.length : Nat) : Int)).toNat, .z z5_11⟩]⟩
abbrev rMul_l2_P (n : Nat) (a0 : List Int) (a1 : List Int) (i6_2 : Int) (k_l1 : (List Int) → Int → Option (List Int × Nat)) (r : List Int × Nat) (fu : Nat) : S → Prop := fun s => ∃ (z5_11 : List Int), ∃ (i7_8 : Int), ∃ (i8_8 : Int), s = rMul_l2_E a0 a1 i6_2 z5_11 i7_8 i8_8 ∧ rMul_l2 n a0 a1 i6_2 k_l1 fu z5_11 i7_8 i8_8 = some r
def rMul_l1_E (a0 : List Int) (a1 : List Int) (z5_9 : List Int) (i6_2 : Int) : S := ⟨[(0, kH 0), (1, kH 1), (5, kH 2), (6, kI i6_2)], [], [oz 3 a0, oz 3 a1, ⟨.row, 3, 1, (((a0.length : Nat) : Int) + ((a1.length : Nat) : Int)).toNat, .z z5_9⟩]⟩
abbrev rMul_l1_P (n : Nat) (a0 : List Int) (a1 : List Int) (r : List Int × Nat) (fu : Nat) : S → Prop := fun s => ∃ (z5_9 : List Int), ∃ (i6_2 : Int), s = rMul_l1_E a0 a1 z5_9 i6_2 ∧ rMul_l1 n a0 a1 fu z5_9 i6_2 = some r
def rMul_R (r : List Int × Nat) : S := ⟨[(4, kH 0)], [], [⟨(.ro true), 3, 1, r.2, .z r.1⟩]⟩
def rMul_ct (n : Nat) (r : List Int × Nat) : Ct := ctc (rZ 3).rd fun _ l0 => ctc (rZ 3).rd fun _ l1 => ct0 fun H => ([rMul n l0 l1 = some r], shA H.length (kH 0), shH H.length [⟨(.ro true), 3, 1, r.2, .z r.1⟩])
theorem rMul_ok (n : Nat) (r : List Int × Nat) : FnOk Tryz.prog Tr 57 (rMul_ct n r) := by
 refine fnok Tryz.func57 ?_
 refine HO_c (rZ 3) fun l0 _ => HO_c (rZ 3) fun l1 _ => HO_0 tabO_qn (rMul_R r) [.tmp 4] [0] 63 Tryz.func57 fun w hG h => ?_
 unfold rMul at h
 have hT := tabO_qn
 refine Vrs hT [0, 1] ⟨[(0, kH 0), (1, kH 1)], [], [oz 3 l0, oz 3 l1]⟩ ?_
 obtain ⟨g1, g2, g3, g4, h⟩ := gd4 h
 refine Vgs hT fN [] [] [0, 1, 2] ⟨[(0, kH 0), (1, kH 1), (5, kH 2)], [], [oz 3 l0, oz 3 l1, ⟨.row, 3, 1, (((l0.length : Nat) : Int) + ((l1.length : Nat) : Int)).toNat, .z (List.replicate ((((l0.length : Nat) : Int) + ((l1.length : Nat) : Int)).toNat) 0)⟩]⟩ (aP g1 (aP g2 (aP g3 (aP g4 aN)))) ?_
 refine W_seq ?_
 refine Vrs hT [0, 1, 2] ⟨[(0, kH 0), (1, kH 1), (5, kH 2), (6, kI 0)], [], [oz 3 l0, oz 3 l1, ⟨.row, 3, 1, (((l0.length : Nat) : Int) + ((l1.length : Nat) : Int)).toNat, .z (List.replicate ((((l0.length : Nat) : Int) + ((l1.length : Nat) : Int)).toNat) 0)⟩]⟩ ?_
 refine W_block ?_
 refine Vc [] [0, 1, 2] (rMul_l1_E l0 l1 (List.replicate ((((l0.length : Nat) : Int) + ((l1.length : Nat) : Int)).toNat) 0) 0) (W_lp ((rMul_l1_P n l0 l1 r)) n ⟨_, _, rfl, h⟩ ?_)
 rintro fu_l1 _ ⟨z5_9, i6_2, rfl, h⟩
 cases fu_l1 with
 | zero => cases h
 | succ fu_l1 =>
  refine ⟨fu_l1, rfl, ?_⟩
  rw [rMul_l1] at h
  refine W_seq ?_
  refine Vrs hT [0, 1, 2] ⟨[(0, kH 0), (1, kH 1), (5, kH 2), (6, kI i6_2), (18, kB (decide (i6_2 < ((l0.length : Nat) : Int))))], [], [oz 3 l0, oz 3 l1, ⟨.row, 3, 1, (((l0.length : Nat) : Int) + ((l1.length : Nat) : Int)).toNat, .z z5_9⟩]⟩ ?_
  refine Vi ((decide (i6_2 < ((l0.length : Nat) : Int)))) (fun g28 => ?_) (fun g28 => ?_)
  ·replace h := bif_t h g28
   refine W_skip ?_
   refine W_seq ?_
   refine W_block ?_
   refine Vrs hT [0, 1, 2] ⟨[(0, kH 0), (1, kH 1), (5, kH 2), (6, kI i6_2), (7, kI 0)], [], [oz 3 l0, oz 3 l1, ⟨.row, 3, 1, (((l0.length : Nat) : Int) + ((l1.length : Nat) : Int)).toNat, .z z5_9⟩]⟩ ?_
   refine W_seq ?_
   refine Vrs hT [0, 1, 2] ⟨[(0, kH 0), (1, kH 1), (5, kH 2), (6, kI i6_2), (7, kI 0), (8, kI 0)], [], [oz 3 l0, oz 3 l1, ⟨.row, 3, 1, (((l0.length : Nat) : Int) + ((l1.length : Nat) : Int)).toNat, .z z5_9⟩]⟩ ?_
   refine W_block ?_
   refine Vc [] [0, 1, 2] (rMul_l2_E l0 l1 i6_2 z5_9 0 0) (W_lp ((rMul_l2_P n l0 l1 i6_2 (rMul_l1 n l0 l1 fu_l1) r)) n ⟨_, _, _, rfl, h⟩ ?_)
   rintro fu_l2 _ ⟨z5_11, i7_8, i8_8, rfl, h⟩
   cases fu_l2 with
   | zero => cases h
   | succ fu_l2 =>
    refine ⟨fu_l2, rfl, ?_⟩
    rw [rMul_l2] at h
    refine W_seq ?_
    refine Vrs hT [0, 1, 2] ⟨[(0, kH 0), (1, kH 1), (5, kH 2), (6, kI i6_2), (7, kI i7_8), (8, kI i8_8), (24, kB (decide (i8_8 < ((l1.length : Nat) : Int))))], [], [oz 3 l0, oz 3 l1, ⟨.row, 3, 1, (((l0.length : Nat) : Int) + ((l1.length : Nat) : Int)).toNat, .z z5_11⟩]⟩ ?_
    refine Vi ((decide (i8_8 < ((l1.length : Nat) : Int)))) (fun g26 => ?_) (fun g26 => ?_)
    ·replace h := bif_t h g26
     refine W_skip ?_
     refine W_seq ?_
     refine W_block ?_
     obtain ⟨g5, g6, g7, g8, g9, h⟩ := gd5 h
     obtain ⟨g10, g11, g12, g13, g14, h⟩ := gd5 h
     refine Vds hT fN 17 [] [(0, false), (1, false), (5, false), (6, false), (7, false), (8, false), (37, false), (43, false)] [] [0, 1, 2] ⟨[(0, kH 0), (1, kH 1), (5, kH 2), (6, kI i6_2), (7, kI ((i7_8 + ((l0.getD i6_2.toNat 0) * (l1.getD i8_8.toNat 0))) + (z5_11.getD ((i6_2 + i8_8).toNat) 0))), (8, kI i8_8)], [], [oz 3 l0, oz 3 l1, ⟨.row, 3, 1, (((l0.length : Nat) : Int) + ((l1.length : Nat) : Int)).toNat, .z z5_11⟩]⟩ (aP g5 (aP g6 (aP g7 (aP g8 (aP g9 (aP g10 (aP g11 (aP g12 (aP g13 (aP g14 aN)))))))))) ?_
     obtain ⟨g15, g16, g17, g18, h⟩ := gd4 h
     refine Vgs hT fN [] [] [0, 1, 2] ⟨[(0, kH 0), (1, kH 1), (5, kH 2), (6, kI i6_2), (7, kI ((i7_8 + ((l0.getD i6_2.toNat 0) * (l1.getD i8_8.toNat 0))) + (z5_11.getD ((i6_2 + i8_8).toNat) 0))), (8, kI i8_8)], [], [oz 3 l0, oz 3 l1, ⟨.row, 3, 1, (((l0.length : Nat) : Int) + ((l1.length : Nat) : Int)).toNat, .z (z5_11.set ((i6_2 + i8_8).toNat) (Int.tmod ((i7_8 + ((l0.getD i6_2.toNat 0) * (l1.getD i8_8.toNat 0))) + (z5_11.getD ((i6_2 + i8_8).toNat) 0)) 65536))⟩]⟩ (aP g15 (aP g16 (aP g17 (aP g18 aN)))) ?_
     obtain ⟨g19, g20, h⟩ := gd2 h
     refine Vg hT fN [] [] [0, 1, 2] ⟨[(0, kH 0), (1, kH 1), (5, kH 2), (6, kI i6_2), (7, kI (Int.tdiv ((i7_8 + ((l0.getD i6_2.toNat 0) * (l1.getD i8_8.toNat 0))) + (z5_11.getD ((i6_2 + i8_8).toNat) 0)) 65536)), (8, kI i8_8)], [], [oz 3 l0, oz 3 l1, ⟨.row, 3, 1, (((l0.length : Nat) : Int) + ((l1.length : Nat) : Int)).toNat, .z (z5_11.set ((i6_2 + i8_8).toNat) (Int.tmod ((i7_8 + ((l0.getD i6_2.toNat 0) * (l1.getD i8_8.toNat 0))) + (z5_11.getD ((i6_2 + i8_8).toNat) 0)) 65536))⟩]⟩ (aP g19 (aP g20 aN)) ?_
     obtain ⟨g21, h⟩ := gd_some h
     refine Vg hT fN [] [] [0, 1, 2] (rMul_l2_E l0 l1 i6_2 (z5_11.set ((i6_2 + i8_8).toNat) (Int.tmod ((i7_8 + ((l0.getD i6_2.toNat 0) * (l1.getD i8_8.toNat 0))) + (z5_11.getD ((i6_2 + i8_8).toNat) 0)) 65536)) (Int.tdiv ((i7_8 + ((l0.getD i6_2.toNat 0) * (l1.getD i8_8.toNat 0))) + (z5_11.getD ((i6_2 + i8_8).toNat) 0)) 65536) (i8_8 + 1)) (aP g21 aN) ?_
     exact ⟨_, _, _, rfl, h⟩
    ·replace h := bif_f h g26
     refine Vc [] [0, 1, 2] ⟨[(0, kH 0), (1, kH 1), (5, kH 2), (6, kI i6_2), (7, kI i7_8)], [], [oz 3 l0, oz 3 l1, ⟨.row, 3, 1, (((l0.length : Nat) : Int) + ((l1.length : Nat) : Int)).toNat, .z z5_11⟩]⟩ (W_exit ?_)
     obtain ⟨g22, g23, g24, h⟩ := gd3 h
     refine Vg hT fN [] [] [0, 1, 2] ⟨[(0, kH 0), (1, kH 1), (5, kH 2), (6, kI i6_2)], [], [oz 3 l0, oz 3 l1, ⟨.row, 3, 1, (((l0.length : Nat) : Int) + ((l1.length : Nat) : Int)).toNat, .z (z5_11.set ((i6_2 + ((l1.length : Nat) : Int)).toNat) i7_8)⟩]⟩ (aP g22 (aP g23 (aP g24 aN))) ?_
     obtain ⟨g25, h⟩ := gd_some h
     refine Vg hT fN [] [] [0, 1, 2] (rMul_l1_E l0 l1 (z5_11.set ((i6_2 + ((l1.length : Nat) : Int)).toNat) i7_8) (i6_2 + 1)) (aP g25 aN) ?_
     exact ⟨_, _, rfl, h⟩
  ·replace h := bif_f h g28
   refine Vc [] [2] ⟨[(5, kH 0)], [], [⟨.row, 3, 1, (((l0.length : Nat) : Int) + ((l1.length : Nat) : Int)).toNat, .z z5_9⟩]⟩ (W_exit ?_)
   obtain ⟨r62_2, g27, h⟩ := bind_some' h
   refine Vgs hT (fT 1 (rtrim_ok n r62_2) fN) [] [] [0] ⟨[(4, .c (.sl 0 0 r62_2.2))], [], [⟨.row, 3, 1, (((l0.length : Nat) : Int) + ((l1.length : Nat) : Int)).toNat, .z z5_9⟩]⟩ (aP g27 aN) ?_
   refine Vc [.vw 4 true] [1] (rMul_R (((z5_9.drop 0).take r62_2.2), r62_2.2)) (W_ret ?_)
   exact ⟨.inl rfl, by cases h; rfl⟩
def rAdd_l1_E (a0 : List Int) (a1 : List Int) (z5_2 : List Int) (i6_2 : Int) (i7_2 : Int) : S := ⟨[(0, kH 0), (1, kH 1), (5, kH 2), (6, kI i6_2), (7, kI i7_2)], [], [oz 3 a0, oz 3 a1, nz 3 z5_2]⟩
abbrev rAdd_l1_P (n : Nat) (a0 : List Int) (a1 : List Int) (r : List Int × Nat) (fu : Nat) : S → Prop := fun s => ∃ (z5_2 : List Int), ∃ (i6_2 : Int), ∃ (i7_2 : Int), s = rAdd_l1_E a0 a1 z5_2 i6_2 i7_2 ∧ rAdd_l1 n a0 a1 fu z5_2 i6_2 i7_2 = some r
def rAdd_R (r : List Int × Nat) : S := ⟨[(4, kH 0)], [], [⟨(.ro true), 3, 1, r.2, .z r.1⟩]⟩
def rAdd_ct (n : Nat) (r : List Int × Nat) : Ct := ctc (rZ 3).rd fun _ l0 => ctc (rZ 3).rd fun _ l1 => ct0 fun H => ([rAdd n l0 l1 = some r], shA H.length (kH 0), shH H.length [⟨(.ro true), 3, 1, r.2, .z r.1⟩])
theorem rAdd_ok (n : Nat) (r : List Int × Nat) : FnOk Tryz.prog Tr 56 (rAdd_ct n r) := by
 refine fnok Tryz.func56 ?_
 refine HO_c (rZ 3) fun l0 _ => HO_c (rZ 3) fun l1 _ => HO_0 tabO_qn (rAdd_R r) [.tmp 4] [0] 42 Tryz.func56 fun w hG h => ?_
 unfold rAdd at h
 have hT := tabO_qn
 refine Vrs hT [0, 1] ⟨[(0, kH 0), (1, kH 1)], [], [oz 3 l0, oz 3 l1]⟩ ?_
 refine Vrs hT [0, 1] ⟨[(0, kH 0), (1, kH 1), (5, .c (.nils))], [], [oz 3 l0, oz 3 l1]⟩ ?_
 refine Vrs hT [0, 1] ⟨[(0, kH 0), (1, kH 1), (5, .c (.nils)), (6, kI 0)], [], [oz 3 l0, oz 3 l1]⟩ ?_
 refine W_seq ?_
 refine Vrs hT [0, 1] ⟨[(0, kH 0), (1, kH 1), (5, .c (.nils)), (6, kI 0), (7, kI 0)], [], [oz 3 l0, oz 3 l1]⟩ ?_
 refine W_block ?_
 refine Vc [.nil 5 3 1 (.z [])] [0, 1, 2] (rAdd_l1_E l0 l1 [] 0 0) (W_lp ((rAdd_l1_P n l0 l1 r)) n ⟨_, _, _, rfl, h⟩ ?_)
 rintro fu_l1 _ ⟨z5_2, i6_2, i7_2, rfl, h⟩
 cases fu_l1 with
 | zero => cases h
 | succ fu_l1 =>
  refine ⟨fu_l1, rfl, ?_⟩
  rw [rAdd_l1] at h
  refine W_seq ?_
  refine W_seq ?_
  rcases Bool.eq_false_or_eq_true (decide (i7_2 < ((l0.length : Nat) : Int))) with g1 | g1
  ·replace h := bif_t h g1
   refine Vg hT fN [(4, true)] [] [0, 1, 2] ⟨[(0, kH 0), (1, kH 1), (5, kH 2), (6, kI i6_2), (7, kI i7_2), (21, kB true)], [], [oz 3 l0, oz 3 l1, nz 3 z5_2]⟩ (aP g1 aN) ?_
   refine Vi (true) (fun _ => ?_) (fun hb => by cases hb)
   refine W_skip ?_
   refine W_seq ?_
   refine W_block ?_
   obtain ⟨r27_3, g2, h⟩ := bind_some' h
   obtain ⟨g3, h⟩ := gd_some h
   obtain ⟨r31_3, g4, h⟩ := bind_some' h
   obtain ⟨g5, h⟩ := gd_some h
   refine Vgs hT (fT 3 (rdigit_ok n r27_3) (fT 7 (rdigit_ok n r31_3) fN)) [] [] [0, 1, 2] ⟨[(0, kH 0), (1, kH 1), (5, kH 2), (6, kI ((i6_2 + r27_3) + r31_3)), (7, kI i7_2)], [], [oz 3 l0, oz 3 l1, nz 3 z5_2]⟩ (aP g2 (aP g3 (aP g4 (aP g5 aN)))) ?_
   obtain ⟨g6, g7, h⟩ := gd2 h
   refine Vgs hT fN [] [] [0, 1, 4] ⟨[(0, kH 0), (1, kH 1), (5, kH 2), (6, kI ((i6_2 + r27_3) + r31_3)), (7, kI i7_2)], [], [oz 3 l0, oz 3 l1, nz 3 (z5_2 ++ [(Int.tmod ((i6_2 + r27_3) + r31_3) 65536)])]⟩ (aP g6 (aP g7 aN)) ?_
   obtain ⟨g8, g9, h⟩ := gd2 h
   refine Vg hT fN [] [] [0, 1, 2] ⟨[(0, kH 0), (1, kH 1), (5, kH 2), (6, kI (Int.tdiv ((i6_2 + r27_3) + r31_3) 65536)), (7, kI i7_2)], [], [oz 3 l0, oz 3 l1, nz 3 (z5_2 ++ [(Int.tmod ((i6_2 + r27_3) + r31_3) 65536)])]⟩ (aP g8 (aP g9 aN)) ?_
   obtain ⟨g10, h⟩ := gd_some h
   refine Vg hT fN [] [] [0, 1, 2] (rAdd_l1_E l0 l1 (z5_2 ++ [(Int.tmod ((i6_2 + r27_3) + r31_3) 65536)]) (Int.tdiv ((i6_2 + r27_3) + r31_3) 65536) (i7_2 + 1)) (aP g10 aN) ?_
   exact ⟨_, _, _, rfl, h⟩
  ·replace h := bif_f h g1
   rcases Bool.eq_false_or_eq_true (decide (i7_2 < ((l1.length : Nat) : Int))) with g11 | g11
   ·replace h := bif_t h g11
    refine Vg hT fN [(4, false), (10, true)] [] [0, 1, 2] ⟨[(0, kH 0), (1, kH 1), (5, kH 2), (6, kI i6_2), (7, kI i7_2), (21, kB true)], [], [oz 3 l0, oz 3 l1, nz 3 z5_2]⟩ (aP g1 (aP g11 aN)) ?_
    refine Vi (true) (fun _ => ?_) (fun hb => by cases hb)
    refine W_skip ?_
    refine W_seq ?_
    refine W_block ?_
    obtain ⟨r27_3, g12, h⟩ := bind_some' h
    obtain ⟨g13, h⟩ := gd_some h
    obtain ⟨r31_3, g14, h⟩ := bind_some' h
    obtain ⟨g15, h⟩ := gd_some h
    refine Vgs hT (fT 3 (rdigit_ok n r27_3) (fT 7 (rdigit_ok n r31_3) fN)) [] [] [0, 1, 2] ⟨[(0, kH 0), (1, kH 1), (5, kH 2), (6, kI ((i6_2 + r27_3) + r31_3)), (7, kI i7_2)], [], [oz 3 l0, oz 3 l1, nz 3 z5_2]⟩ (aP g12 (aP g13 (aP g14 (aP g15 aN)))) ?_
    obtain ⟨g16, g17, h⟩ := gd2 h
    refine Vgs hT fN [] [] [0, 1, 4] ⟨[(0, kH 0), (1, kH 1), (5, kH 2), (6, kI ((i6_2 + r27_3) + r31_3)), (7, kI i7_2)], [], [oz 3 l0, oz 3 l1, nz 3 (z5_2 ++ [(Int.tmod ((i6_2 + r27_3) + r31_3) 65536)])]⟩ (aP g16 (aP g17 aN)) ?_
    obtain ⟨g18, g19, h⟩ := gd2 h
    refine Vg hT fN [] [] [0, 1, 2] ⟨[(0, kH 0), (1, kH 1), (5, kH 2), (6, kI (Int.tdiv ((i6_2 + r27_3) + r31_3) 65536)), (7, kI i7_2)], [], [oz 3 l0, oz 3 l1, nz 3 (z5_2 ++ [(Int.tmod ((i6_2 + r27_3) + r31_3) 65536)])]⟩ (aP g18 (aP g19 aN)) ?_
    obtain ⟨g20, h⟩ := gd_some h
    refine Vg hT fN [] [] [0, 1, 2] (rAdd_l1_E l0 l1 (z5_2 ++ [(Int.tmod ((i6_2 + r27_3) + r31_3) 65536)]) (Int.tdiv ((i6_2 + r27_3) + r31_3) 65536) (i7_2 + 1)) (aP g20 aN) ?_
    exact ⟨_, _, _, rfl, h⟩
   ·replace h := bif_f h g11
    refine Vg hT fN [(4, false), (10, false)] [] [0, 1, 2] ⟨[(0, kH 0), (1, kH 1), (5, kH 2), (6, kI i6_2), (7, kI i7_2), (21, kB (decide ((0 : Int) < i6_2)))], [], [oz 3 l0, oz 3 l1, nz 3 z5_2]⟩ (aP g1 (aP g11 aN)) ?_
    refine Vi ((decide ((0 : Int) < i6_2))) (fun g31 => ?_) (fun g31 => ?_)
    ·replace h := bif_t h g31
     refine W_skip ?_
     refine W_seq ?_
     refine W_block ?_
     obtain ⟨r27_3, g21, h⟩ := bind_some' h
     obtain ⟨g22, h⟩ := gd_some h
     obtain ⟨r31_3, g23, h⟩ := bind_some' h
     obtain ⟨g24, h⟩ := gd_some h
     refine Vgs hT (fT 3 (rdigit_ok n r27_3) (fT 7 (rdigit_ok n r31_3) fN)) [] [] [0, 1, 2] ⟨[(0, kH 0), (1, kH 1), (5, kH 2), (6, kI ((i6_2 + r27_3) + r31_3)), (7, kI i7_2)], [], [oz 3 l0, oz 3 l1, nz 3 z5_2]⟩ (aP g21 (aP g22 (aP g23 (aP g24 aN)))) ?_
     obtain ⟨g25, g26, h⟩ := gd2 h
     refine Vgs hT fN [] [] [0, 1, 4] ⟨[(0, kH 0), (1, kH 1), (5, kH 2), (6, kI ((i6_2 + r27_3) + r31_3)), (7, kI i7_2)], [], [oz 3 l0, oz 3 l1, nz 3 (z5_2 ++ [(Int.tmod ((i6_2 + r27_3) + r31_3) 65536)])]⟩ (aP g25 (aP g26 aN)) ?_
     obtain ⟨g27, g28, h⟩ := gd2 h
     refine Vg hT fN [] [] [0, 1, 2] ⟨[(0, kH 0), (1, kH 1), (5, kH 2), (6, kI (Int.tdiv ((i6_2 + r27_3) + r31_3) 65536)), (7, kI i7_2)], [], [oz 3 l0, oz 3 l1, nz 3 (z5_2 ++ [(Int.tmod ((i6_2 + r27_3) + r31_3) 65536)])]⟩ (aP g27 (aP g28 aN)) ?_
     obtain ⟨g29, h⟩ := gd_some h
     refine Vg hT fN [] [] [0, 1, 2] (rAdd_l1_E l0 l1 (z5_2 ++ [(Int.tmod ((i6_2 + r27_3) + r31_3) 65536)]) (Int.tdiv ((i6_2 + r27_3) + r31_3) 65536) (i7_2 + 1)) (aP g29 aN) ?_
     exact ⟨_, _, _, rfl, h⟩
    ·replace h := bif_f h g31
     refine Vc [] [2] ⟨[(5, kH 0)], [], [nz 3 z5_2]⟩ (W_exit ?_)
     obtain ⟨r41_2, g30, h⟩ := bind_some' h
     refine Vgs hT (fT 1 (rtrim_ok n r41_2) fN) [] [] [0] ⟨[(4, .c (.sl 0 0 r41_2.2))], [], [nz 3 z5_2]⟩ (aP g30 aN) ?_
     refine Vc [.vw 4 true] [1] (rAdd_R (((z5_2.drop 0).take r41_2.2), r41_2.2)) (W_ret ?_)
     exact ⟨.inl rfl, by cases h; rfl⟩
def rTo_j1_E (a0 : List Int) (w3_2 : List UInt32) (i4_2 : Int) (x5_8 : UInt32) : S := ⟨[(0, kH 0), (3, kH 1), (4, kI i4_2), (5, kX x5_8)], [], [oz 3 a0, nw 63 w3_2]⟩
abbrev rTo_j1_P (n : Nat) (a0 : List Int) (w3_2 : List UInt32) (i4_2 : Int) (k_l1 : (List UInt32) → Int → Option (List UInt32)) (r : List UInt32) : S → Prop := fun s => ∃ (x5_8 : UInt32), s = rTo_j1_E a0 w3_2 i4_2 x5_8 ∧ rTo_j1 n a0 w3_2 i4_2 k_l1 x5_8 = some r
def rTo_l1_E (a0 : List Int) (w3_2 : List UInt32) (i4_2 : Int) : S := ⟨[(0, kH 0), (3, kH 1), (4, kI i4_2)], [], [oz 3 a0, nw 63 w3_2]⟩
abbrev rTo_l1_P (n : Nat) (a0 : List Int) (r : List UInt32) (fu : Nat) : S → Prop := fun s => ∃ (w3_2 : List UInt32), ∃ (i4_2 : Int), s = rTo_l1_E a0 w3_2 i4_2 ∧ rTo_l1 n a0 fu w3_2 i4_2 = some r
def rTo_R (r : List UInt32) : S := ⟨[(2, kH 0)], [], [nw 63 r]⟩
def rTo_ct (n : Nat) (r : List UInt32) : Ct := ctc (rZ 3).rd fun _ l0 => ct0 fun H => ([rTo n l0 = some r], shA H.length (kH 0), shH H.length [nw 63 r])
theorem rTo_ok (n : Nat) (r : List UInt32) : FnOk Tryz.prog Tr 55 (rTo_ct n r) := by
 refine fnok Tryz.func55 ?_
 refine HO_c (rZ 3) fun l0 _ => HO_0 tabO_qn (rTo_R r) [.tmp 2] [0] 36 Tryz.func55 fun w hG h => ?_
 unfold rTo at h
 have hT := tabO_qn
 refine Vrs hT [0] ⟨[(0, kH 0)], [], [oz 3 l0]⟩ ?_
 refine Vrs hT [0] ⟨[(0, kH 0), (3, .c (.nils))], [], [oz 3 l0]⟩ ?_
 refine W_seq ?_
 refine Vrs hT [0] ⟨[(0, kH 0), (3, .c (.nils)), (4, kI 0)], [], [oz 3 l0]⟩ ?_
 refine W_block ?_
 refine Vc [.nil 3 63 1 (.w [])] [0, 1] (rTo_l1_E l0 [] 0) (W_lp ((rTo_l1_P n l0 r)) n ⟨_, _, rfl, h⟩ ?_)
 rintro fu_l1 _ ⟨w3_2, i4_2, rfl, h⟩
 cases fu_l1 with
 | zero => cases h
 | succ fu_l1 =>
  refine ⟨fu_l1, rfl, ?_⟩
  rw [rTo_l1] at h
  refine W_seq ?_
  refine Vrs hT [0, 1] ⟨[(0, kH 0), (3, kH 1), (4, kI i4_2), (9, kB (decide (i4_2 < ((l0.length : Nat) : Int))))], [], [oz 3 l0, nw 63 w3_2]⟩ ?_
  refine Vi ((decide (i4_2 < ((l0.length : Nat) : Int)))) (fun g10 => ?_) (fun g10 => ?_)
  ·replace h := bif_t h g10
   refine W_skip ?_
   refine W_seq ?_
   refine W_block ?_
   obtain ⟨g1, g2, h⟩ := gd2 h
   refine Vgs hT fN [] [] [0, 1] ⟨[(0, kH 0), (3, kH 1), (4, kI i4_2), (5, kX (UInt32.ofInt (l0.getD i4_2.toNat 0)))], [], [oz 3 l0, nw 63 w3_2]⟩ (aP g1 (aP g2 aN)) ?_
   refine W_join (rTo_j1_P n l0 w3_2 i4_2 (rTo_l1 n l0 fu_l1) r) ?_ ?_
   ·rintro _ ⟨x5_8, rfl, h⟩
    unfold rTo_j1 at h
    obtain ⟨g3, h⟩ := gd_some h
    refine Vg hT fN [] [] [0, 3] ⟨[(0, kH 0), (3, kH 1), (4, kI i4_2)], [], [oz 3 l0, nw 63 (w3_2 ++ [x5_8])]⟩ (aP g3 aN) ?_
    obtain ⟨g4, h⟩ := gd_some h
    refine Vg hT fN [] [] [0, 1] (rTo_l1_E l0 (w3_2 ++ [x5_8]) (i4_2 + 2)) (aP g4 aN) ?_
    exact ⟨_, _, rfl, h⟩
   ·refine W_seq ?_
    obtain ⟨g5, h⟩ := gd_some h
    refine Vg hT fN [] [] [0, 1] ⟨[(0, kH 0), (3, kH 1), (4, kI i4_2), (5, kX (UInt32.ofInt (l0.getD i4_2.toNat 0))), (21, kB (decide ((i4_2 + 1) < ((l0.length : Nat) : Int))))], [], [oz 3 l0, nw 63 w3_2]⟩ (aP g5 aN) ?_
    refine Vi ((decide ((i4_2 + 1) < ((l0.length : Nat) : Int)))) (fun g9 => ?_) (fun g9 => ?_)
    ·replace h := bif_t h g9
     obtain ⟨g6, g7, g8, h⟩ := gd3 h
     refine Vg hT fN [] [] [0, 1] (rTo_j1_E l0 w3_2 i4_2 ((UInt32.ofInt (l0.getD i4_2.toNat 0)) + ((UInt32.ofInt (l0.getD ((i4_2 + 1).toNat) 0)) * (65536 : UInt32)))) (aP g6 (aP g7 (aP g8 aN))) ?_
     exact ⟨_, rfl, h⟩
    ·replace h := bif_f h g9
     refine Vc [] [0, 1] (rTo_j1_E l0 w3_2 i4_2 (UInt32.ofInt (l0.getD i4_2.toNat 0))) (W_skip ?_)
     exact ⟨_, rfl, h⟩
  ·replace h := bif_f h g10
   refine Vc [] [1] ⟨[(3, kH 0)], [], [nw 63 w3_2]⟩ (W_exit ?_)
   refine Vrs hT [0] ⟨[(2, kH 0)], [], [nw 63 w3_2]⟩ ?_
   refine Vc [] [0] (rTo_R w3_2) (W_ret ?_)
   exact ⟨.inl rfl, by cases h; rfl⟩
def ksize_l1_E (a0 : List UInt32) (i6_2 : Int) : S := ⟨[(0, kH 0), (6, kI i6_2)], [], [ow 63 a0]⟩
abbrev ksize_l1_P (n : Nat) (a0 : List UInt32) (r : Int) (fu : Nat) : S → Prop := fun s => ∃ (i6_2 : Int), s = ksize_l1_E a0 i6_2 ∧ ksize_l1 n a0 fu i6_2 = some r
def ksize_R (r : Int) : S := ⟨[(2, kI r)], [], []⟩
def ksize_ct (n : Nat) (r : Int) : Ct := ctc (rW 63).rd fun _ l0 => ct0 fun H => ([ksize n l0 = some r], shA H.length (kI r), shH H.length [])
theorem ksize_ok (n : Nat) (r : Int) : FnOk Tryz.prog Tr 38 (ksize_ct n r) := by
 refine fnok Tryz.func38 ?_
 refine HO_c (rW 63) fun l0 _ => HO_0 tabO_qn (ksize_R r) [.tmp 2] [] 19 Tryz.func38 fun w hG h => ?_
 unfold ksize at h
 have hT := tabO_qn
 refine Vrs hT [0] ⟨[(0, kH 0)], [], [ow 63 l0]⟩ ?_
 refine W_seq ?_
 refine Vrs hT [0] ⟨[(0, kH 0), (6, kI 0)], [], [ow 63 l0]⟩ ?_
 refine W_block ?_
 refine Vc [] [0] (ksize_l1_E l0 0) (W_lp ((ksize_l1_P n l0 r)) n ⟨_, rfl, h⟩ ?_)
 rintro fu_l1 _ ⟨i6_2, rfl, h⟩
 cases fu_l1 with
 | zero => cases h
 | succ fu_l1 =>
  refine ⟨fu_l1, rfl, ?_⟩
  rw [ksize_l1] at h
  refine Vrs hT [0] ⟨[(0, kH 0), (6, kI i6_2), (7, kB (decide (i6_2 < (129 : Int))))], [], [ow 63 l0]⟩ ?_
  refine W_seq ?_
  refine Vi ((decide (i6_2 < (129 : Int)))) (fun g4 => ?_) (fun g4 => ?_)
  ·replace h := bif_t h g4
   refine W_skip ?_
   refine W_seq ?_
   refine W_block ?_
   refine Vrs hT [0] ⟨[(0, kH 0), (3, kI i6_2), (6, kI i6_2)], [], [ow 63 l0]⟩ ?_
   obtain ⟨r12_3, g1, h⟩ := bind_some' h
   refine Vgs hT (fT 2 (pWrite_ok n r12_3) fN) [] [] [0] ⟨[(0, kH 0), (3, kI i6_2), (5, kE 37 r12_3.2.2), (6, kI i6_2)], [], [ow 63 l0]⟩ (aP g1 aN) ?_
   refine Vrs hT [0] ⟨[(0, kH 0), (3, kI i6_2), (6, kI i6_2), (16, kB ((r12_3.2.2).isNone))], [], [ow 63 l0]⟩ ?_
   refine Vi ((r12_3.2.2).isNone) (fun g3 => ?_) (fun g3 => ?_)
   ·replace h := bif_t h g3
    refine Vrs hT [] ⟨[(2, kI i6_2)], [], []⟩ ?_
    refine Vc [] [] (ksize_R i6_2) (W_ret ?_)
    exact ⟨.inl rfl, by cases h; rfl⟩
   ·replace h := bif_f h g3
    refine W_skip ?_
    obtain ⟨g2, h⟩ := gd_some h
    refine Vg hT fN [] [] [0] (ksize_l1_E l0 (i6_2 + 1)) (aP g2 aN) ?_
    exact ⟨_, rfl, h⟩
  ·replace h := bif_f h g4
   refine Vc [] [] ⟨[], [], []⟩ (W_exit ?_)
   refine Vrs hT [] ⟨[(2, kI (-1))], [], []⟩ ?_
   refine Vc [] [] (ksize_R (-1)) (W_ret ?_)
   exact ⟨.inl rfl, by cases h; rfl⟩
def kodd_R (r : Bool) : S := ⟨[(2, kB r)], [], []⟩
def kodd_ct (n : Nat) (r : Bool) : Ct := ctc (rW 63).rd fun _ l0 => ct0 fun H => ([kodd n l0 = some r], shA H.length (kB r), shH H.length [])
theorem kodd_ok (n : Nat) (r : Bool) : FnOk Tryz.prog Tr 39 (kodd_ct n r) := by
 refine fnok Tryz.func39 ?_
 refine HO_c (rW 63) fun l0 _ => HO_0 tabO_qn (kodd_R r) [.tmp 2] [] 13 Tryz.func39 fun w hG h => ?_
 unfold kodd at h
 have hT := tabO_qn
 refine Vrs hT [0] ⟨[(0, kH 0)], [], [ow 63 l0]⟩ ?_
 refine W_seq ?_
 rcases Bool.eq_false_or_eq_true (decide ((0 : Int) < ((l0.length : Nat) : Int))) with g1 | g1
 ·replace h := bif_t h g1
  obtain ⟨g2, g3, h⟩ := gd2 h
  refine Vg hT fN [(3, true)] [] [] ⟨[(2, kB (((l0.getD 0 0) &&& (1 : UInt32)) == 1))], [], []⟩ (aP g1 (aP g2 (aP g3 aN))) ?_
  refine Vc [] [] (kodd_R (((l0.getD 0 0) &&& (1 : UInt32)) == 1)) (W_ret ?_)
  exact ⟨.inl rfl, by cases h; rfl⟩
 ·replace h := bif_f h g1
  refine Vg hT fN [(3, false)] [] [] ⟨[(2, kB false)], [], []⟩ (aP g1 aN) ?_
  refine Vc [] [] (kodd_R false) (W_ret ?_)
  exact ⟨.inl rfl, by cases h; rfl⟩
def kCheck_R (r : Option Int) : S := ⟨[(2, kE 37 r)], [], []⟩
def kCheck_ct (n : Nat) (r : Option Int) : Ct := ctc (rSt (lC (cW 63) (lC (cW 63) lN))).rd fun _ y0 => ct0 fun H => ([kCheck n y0.1 y0.2.1 = some r], shA H.length (kE 37 r), shH H.length [])
theorem kCheck_ok (n : Nat) (r : Option Int) : FnOk Tryz.prog Tr 13 (kCheck_ct n r) := by
 refine fnok Tryz.func13 ?_
 refine HO_c (rSt (lC (cW 63) (lC (cW 63) lN))) fun p0 _ => ?_
 obtain ⟨l0_0, l0_1, _⟩ := p0
 refine HO_0 tabO_qn (kCheck_R r) [.tmp 2] [] 37 Tryz.func13 fun w hG h => ?_
 have h : kCheck n l0_0 l0_1 = some r := h
 unfold kCheck at h
 have hT := tabO_qn
 refine Vrs hT [2, 0, 1] ⟨[(1, kP 0 0)], [], [⟨.blk, 27, 1, 2, .c [.wh 1, .wh 2]⟩, ow 63 l0_0, ow 63 l0_1]⟩ ?_
 obtain ⟨r6, g1, h⟩ := bind_some' h
 refine Vgs hT (fT 2 (ksize_ok n r6) fN) [] [] [0, 1, 2] ⟨[(1, kP 0 0), (3, kI r6)], [], [⟨.blk, 27, 1, 2, .c [.wh 1, .wh 2]⟩, ow 63 l0_0, ow 63 l0_1]⟩ (aP g1 aN) ?_
 refine W_seq ?_
 refine W_seq ?_
 rcases Bool.eq_false_or_eq_true (decide (r6 < (62 : Int))) with g2 | g2
 ·replace h := bif_t h g2
  refine Vg hT fN [(2, true)] [] [] ⟨[(35, kB true)], [], []⟩ (aP g2 aN) ?_
  refine Vi (true) (fun _ => ?_) (fun hb => by cases hb)
  refine Vrs hT [] ⟨[(2, kE 37 (some 1))], [], []⟩ ?_
  refine Vc [] [] (kCheck_R (some 1)) (W_ret ?_)
  exact ⟨.inl rfl, by cases h; rfl⟩
 ·replace h := bif_f h g2
  obtain ⟨r12, g3, h⟩ := bind_some' h
  rcases Bool.eq_false_or_eq_true (!r12) with g4 | g4
  ·replace h := bif_t h g4
   refine Vg hT (fT 5 (kodd_ok n r12) fN) [(2, false), (8, true)] [] [] ⟨[(35, kB true)], [], []⟩ (aP g2 (aP g3 (aP g4 aN))) ?_
   refine Vi (true) (fun _ => ?_) (fun hb => by cases hb)
   refine Vrs hT [] ⟨[(2, kE 37 (some 1))], [], []⟩ ?_
   refine Vc [] [] (kCheck_R (some 1)) (W_ret ?_)
   exact ⟨.inl rfl, by cases h; rfl⟩
  ·replace h := bif_f h g4
   obtain ⟨r18, g5, h⟩ := bind_some' h
   rcases Bool.eq_false_or_eq_true (!r18) with g6 | g6
   ·replace h := bif_t h g6
    refine Vg hT (fT 5 (kodd_ok n r12) (fT 11 (kodd_ok n r18) fN)) [(2, false), (8, false), (14, true)] [] [] ⟨[(35, kB true)], [], []⟩ (aP g2 (aP g3 (aP g4 (aP g5 (aP g6 aN))))) ?_
    refine Vi (true) (fun _ => ?_) (fun hb => by cases hb)
    refine Vrs hT [] ⟨[(2, kE 37 (some 1))], [], []⟩ ?_
    refine Vc [] [] (kCheck_R (some 1)) (W_ret ?_)
    exact ⟨.inl rfl, by cases h; rfl⟩
   ·replace h := bif_f h g6
    obtain ⟨r25, g7, h⟩ := bind_some' h
    rcases Bool.eq_false_or_eq_true (decide (r25 < (0 : Int))) with g8 | g8
    ·replace h := bif_t h g8
     refine Vg hT (fT 5 (kodd_ok n r12) (fT 11 (kodd_ok n r18) (fT 18 (pCmp_ok n r25) fN))) [(2, false), (8, false), (14, false), (21, true)] [] [] ⟨[(35, kB true)], [], []⟩ (aP g2 (aP g3 (aP g4 (aP g5 (aP g6 (aP g7 (aP g8 aN))))))) ?_
     refine Vi (true) (fun _ => ?_) (fun hb => by cases hb)
     refine Vrs hT [] ⟨[(2, kE 37 (some 1))], [], []⟩ ?_
     refine Vc [] [] (kCheck_R (some 1)) (W_ret ?_)
     exact ⟨.inl rfl, by cases h; rfl⟩
    ·replace h := bif_f h g8
     obtain ⟨r33, g9, h⟩ := bind_some' h
     refine Vg hT (fT 5 (kodd_ok n r12) (fT 11 (kodd_ok n r18) (fT 18 (pCmp_ok n r25) (fT 26 (pCmp_ok n r33) fN)))) [(2, false), (8, false), (14, false), (21, false)] [] [] ⟨[(35, kB (decide ((0 : Int) ≤ r33)))], [], []⟩ (aP g2 (aP g3 (aP g4 (aP g5 (aP g6 (aP g7 (aP g8 (aP g9 aN)))))))) ?_
     refine Vi ((decide ((0 : Int) ≤ r33))) (fun g10 => ?_) (fun g10 => ?_)
     ·replace h := bif_t h g10
      refine Vrs hT [] ⟨[(2, kE 37 (some 1))], [], []⟩ ?_
      refine Vc [] [] (kCheck_R (some 1)) (W_ret ?_)
      exact ⟨.inl rfl, by cases h; rfl⟩
     ·replace h := bif_f h g10
      refine W_skip ?_
      refine Vrs hT [] ⟨[(2, .c (.s (.v .nilIface)))], [], []⟩ ?_
      refine Vc [.er 2 37 .i64] [] (kCheck_R none) (W_ret ?_)
      exact ⟨.inl rfl, by cases h; rfl⟩
def qodd_R (r : Bool) : S := ⟨[(2, kB r)], [], []⟩
def qodd_ct (n : Nat) (r : Bool) : Ct := ctc (rZ 3).rd fun _ l0 => ct0 fun H => ([qodd n l0 = some r], shA H.length (kB r), shH H.length [])
theorem qodd_ok (n : Nat) (r : Bool) : FnOk Tryz.prog Tr 50 (qodd_ct n r) := by
 refine fnok Tryz.func50 ?_
 refine HO_c (rZ 3) fun l0 _ => HO_0 tabO_qn (qodd_R r) [.tmp 2] [] 13 Tryz.func50 fun w hG h => ?_
 unfold qodd at h
 have hT := tabO_qn
 refine Vrs hT [0] ⟨[(0, kH 0)], [], [oz 3 l0]⟩ ?_
 refine W_seq ?_
 rcases Bool.eq_false_or_eq_true (decide ((0 : Int) < ((l0.length : Nat) : Int))) with g1 | g1
 ·replace h := bif_t h g1
  obtain ⟨g2, g3, g4, h⟩ := gd3 h
  refine Vg hT fN [(3, true)] [] [] ⟨[(2, kB ((Int.tmod (l0.getD 0 0) 2) == 1))], [], []⟩ (aP g1 (aP g2 (aP g3 (aP g4 aN)))) ?_
  refine Vc [] [] (qodd_R ((Int.tmod (l0.getD 0 0) 2) == 1)) (W_ret ?_)
  exact ⟨.inl rfl, by cases h; rfl⟩
 ·replace h := bif_f h g1
  refine Vg hT fN [(3, false)] [] [] ⟨[(2, kB false)], [], []⟩ (aP g1 aN) ?_
  refine Vc [] [] (qodd_R false) (W_ret ?_)
  exact ⟨.inl rfl, by cases h; rfl⟩
def qPublic_R (r : Bool) : S := ⟨[(2, kB r)], [], []⟩
def qPublic_ct (n : Nat) (r : Bool) : Ct := ctc (rSt (lC (cW 63) (lC (cW 63) lN))).rd fun _ y0 => ct0 fun H => ([qPublic n y0.1 y0.2.1 = some r], shA H.length (kB r), shH H.length [])
theorem qPublic_ok (n : Nat) (r : Bool) : FnOk Tryz.prog Tr 20 (qPublic_ct n r) := by
 refine fnok Tryz.func20 ?_
 refine HO_c (rSt (lC (cW 63) (lC (cW 63) lN))) fun p0 _ => ?_
 obtain ⟨l0_0, l0_1, _⟩ := p0
 refine HO_0 tabO_qn (qPublic_R r) [.tmp 2] [] 42 Tryz.func20 fun w hG h => ?_
 have h : qPublic n l0_0 l0_1 = some r := h
 unfold qPublic at h
 have hT := tabO_qn
 refine Vrs hT [2, 0, 1] ⟨[(1, kP 0 0)], [], [⟨.blk, 27, 1, 2, .c [.wh 1, .wh 2]⟩, ow 63 l0_0, ow 63 l0_1]⟩ ?_
 obtain ⟨r9, g1, h⟩ := bind_some' h
 refine Vgs hT (fT 2 (rOf_ok n r9) fN) [] [] [0, 1, 2, 3] ⟨[(1, kP 0 0), (3, kH 3)], [], [⟨.blk, 27, 1, 2, .c [.wh 1, .wh 2]⟩, ow 63 l0_0, ow 63 l0_1, ⟨(.ro true), 3, 1, r9.2, .z r9.1⟩]⟩ (aP g1 aN) ?_
 obtain ⟨r12, g2, h⟩ := bind_some' h
 refine Vgs hT (fT 2 (rOf_ok n r12) fN) [] [] [3, 4] ⟨[(3, kH 0), (4, kH 1)], [], [⟨(.ro true), 3, 1, r9.2, .z r9.1⟩, ⟨(.ro true), 3, 1, r12.2, .z r12.1⟩]⟩ (aP g2 aN) ?_
 obtain ⟨r14, g3, h⟩ := bind_some' h
 refine Vgs hT (fT 1 (rSize_ok n r14) fN) [] [] [0, 1] ⟨[(3, kH 0), (4, kH 1), (5, kI r14)], [], [⟨(.ro true), 3, 1, r9.2, .z r9.1⟩, ⟨(.ro true), 3, 1, r12.2, .z r12.1⟩]⟩ (aP g3 aN) ?_
 refine Vrs hT [0, 1, 2] ⟨[(3, kH 0), (4, kH 1), (5, kI r14), (6, kH 2)], [], [⟨(.ro true), 3, 1, r9.2, .z r9.1⟩, ⟨(.ro true), 3, 1, r12.2, .z r12.1⟩, ⟨.row, 3, 1, 1, .z [3]⟩]⟩ ?_
 refine W_seq ?_
 rcases Bool.eq_false_or_eq_true (decide ((62 : Int) ≤ r14)) with g4 | g4
 ·replace h := bif_t h g4
  rcases Bool.eq_false_or_eq_true (decide (r14 ≤ (128 : Int))) with g5 | g5
  ·replace h := bif_t h g5
   obtain ⟨r24, g6, h⟩ := bind_some' h
   rcases Bool.eq_false_or_eq_true r24 with g7 | g7
   ·replace h := bif_t h g7
    obtain ⟨r28, g8, h⟩ := bind_some' h
    rcases Bool.eq_false_or_eq_true r28 with g9 | g9
    ·replace h := bif_t h g9
     obtain ⟨r33, g10, h⟩ := bind_some' h
     rcases Bool.eq_false_or_eq_true (decide ((0 : Int) ≤ r33)) with g11 | g11
     ·replace h := bif_t h g11
      obtain ⟨r39, g12, h⟩ := bind_some' h
      refine Vg hT (fT 8 (qodd_ok n r24) (fT 12 (qodd_ok n r28) (fT 17 (rCmp_ok n r33) (fT 23 (rCmp_ok n r39) fN)))) [(2, true), (6, true), (10, true), (14, true), (20, true)] [] [] ⟨[(2, kB (decide (r39 < (0 : Int))))], [], []⟩ (aP g4 (aP g5 (aP g6 (aP g7 (aP g8 (aP g9 (aP g10 (aP g11 (aP g12 aN))))))))) ?_
      refine Vc [] [] (qPublic_R (decide (r39 < (0 : Int)))) (W_ret ?_)
      exact ⟨.inl rfl, by cases h; rfl⟩
     ·replace h := bif_f h g11
      refine Vg hT (fT 8 (qodd_ok n r24) (fT 12 (qodd_ok n r28) (fT 17 (rCmp_ok n r33) fN))) [(2, true), (6, true), (10, true), (14, true), (20, false)] [] [] ⟨[(2, kB false)], [], []⟩ (aP g4 (aP g5 (aP g6 (aP g7 (aP g8 (aP g9 (aP g10 (aP g11 aN)))))))) ?_
      refine Vc [] [] (qPublic_R false) (W_ret ?_)
      exact ⟨.inl rfl, by cases h; rfl⟩
    ·replace h := bif_f h g9
     refine Vg hT (fT 8 (qodd_ok n r24) (fT 12 (qodd_ok n r28) fN)) [(2, true), (6, true), (10, true), (14, false)] [] [] ⟨[(2, kB false)], [], []⟩ (aP g4 (aP g5 (aP g6 (aP g7 (aP g8 (aP g9 aN)))))) ?_
     refine Vc [] [] (qPublic_R false) (W_ret ?_)
     exact ⟨.inl rfl, by cases h; rfl⟩
   ·replace h := bif_f h g7
    refine Vg hT (fT 8 (qodd_ok n r24) fN) [(2, true), (6, true), (10, false)] [] [] ⟨[(2, kB false)], [], []⟩ (aP g4 (aP g5 (aP g6 (aP g7 aN)))) ?_
    refine Vc [] [] (qPublic_R false) (W_ret ?_)
    exact ⟨.inl rfl, by cases h; rfl⟩
  ·replace h := bif_f h g5
   refine Vg hT fN [(2, true), (6, false)] [] [] ⟨[(2, kB false)], [], []⟩ (aP g4 (aP g5 aN)) ?_
   refine Vc [] [] (qPublic_R false) (W_ret ?_)
   exact ⟨.inl rfl, by cases h; rfl⟩
 ·replace h := bif_f h g4
  refine Vg hT fN [(2, false)] [] [] ⟨[(2, kB false)], [], []⟩ (aP g4 aN) ?_
  refine Vc [] [] (qPublic_R false) (W_ret ?_)
  exact ⟨.inl rfl, by cases h; rfl⟩
end Go.Proofs.YtiojofjllkhbhaaGreat
end
section
namespace Go.Sx
open Go Go.RowKit Go.Ch Go.Proofs.YtiojofjllkhbhaaGreat
theorem lastD {l : List UInt32} (h : l ≠ []) : l.getLast h = l.getD (l.length - 1) 0 := by
 have : l.length - 1 < l.length := by have := List.length_pos_iff.2 h; omega
 rw [List.getLast_eq_getElem, List.getD_eq_getElem?_getD, List.getElem?_eq_getElem this]; rfl
theorem ptrim_l1_is (n : Nat) (a : List UInt32) (ha : a.length ≤ 1000000) : ∀ (k fu : Nat), k < fu → k ≤ a.length → nV (a.take k) = nV a →
  ∃ m, ptrim_l1 n a fu k = some (a, m) ∧ a.take m = nD (nV a) ∧ m = (nD (nV a)).length := by
 intro k
 have fin : ∀ k, k ≤ a.length → a.take k = nD (nV a) → k = (nD (nV a)).length := fun k h1 h2 => by rw [← h2, List.length_take]; omega
 induction k with
 | zero =>
  intro fu hf hk he
  cases fu with
  | zero => omega
  | succ fu =>
   have h0 : nV a = 0 := by rw [← he]; rfl
   have h1 : a.take 0 = nD (nV a) := by rw [h0, D_zero]; rfl
   exact ⟨0, by rw [ptrim_l1, ite_f (by simp)], h1, fin 0 hk h1⟩
 | succ k ih =>
  intro fu hf hk he
  cases fu with
  | zero => omega
  | succ fu =>
   have e : (((k + 1 : Nat) : Int) - 1).toNat = k := by omega
   rw [ptrim_l1, ite_t (by simp <;> omega), gd_pos (okI64 (by omega) (by omega)), gd_pos (by omega), gd_pos (by omega), e]
   have h1 := V_take a k (by omega)
   by_cases hz : a.getD k 0 = 0
   ·rw [ite_t (by rw [hz]; rfl), gd_pos (okI64 (by omega) (by omega)), gd_pos (by omega), gd_pos (by omega)]
    rw [hz] at h1
    exact ih fu (by omega) (by omega) (by rw [← he, h1]; rfl)
   ·rw [ite_f (by simp only [beq_eq_false_iff_ne]; exact hz)]
    have hl : (a.take (k + 1)).length = k + 1 := by rw [List.length_take]; omega
    have h2 : a.take (k + 1) = nD (nV a) := by
     rw [← he]
     refine (D_V fun hn => ?_).symm
     rw [lastD hn, hl, Nat.add_sub_cancel, List.getD_eq_getElem?_getD, List.getElem?_take_of_lt (by omega), ← List.getD_eq_getElem?_getD]
     exact hz
    exact ⟨k + 1, rfl, h2, fin _ hk h2⟩
theorem ptrim_tk {n : Nat} (hn : 18446744073709551616 ≤ n) {a : List UInt32} (ha : a.length ≤ 1000000) : ptrim n a = some (a, (nD (nV a)).length) ∧ (a.drop 0).take (nD (nV a)).length = nD (nV a) := by
 obtain ⟨m, h1, h2, h3⟩ := ptrim_l1_is n a ha a.length n (by omega) (Nat.le_refl _) (by rw [List.take_length])
 subst h3
 exact ⟨h1, h2⟩
theorem ptrim_is {n : Nat} (hn : 18446744073709551616 ≤ n) {a : List UInt32} (ha : a.length ≤ 1000000) : ptrim n a = some (a, (nD (nV a)).length) := (ptrim_tk hn ha).1
theorem tk {a : List UInt32} (ha : a.length ≤ 1000000) : (a.drop 0).take (nD (nV a)).length = nD (nV a) := (ptrim_tk (n := 18446744073709551616) (Nat.le_refl _) ha).2
theorem D_le {a : List UInt32} : (nD (nV a)).length ≤ a.length := (D_len _ _).2 (V_lt a)
theorem cCmp_is (n : Nat) (x y : Int) : cCmp n x y = some (if x < y then -1 else if y < x then 1 else 0) := by
 unfold cCmp cisNaN
 simp only [Option.bind_some, bne_self_eq_false, cond_false]
 by_cases h : x < y
 ·simp [h]
 ·by_cases h2 : y < x <;> simp [h, h2]
theorem cCmp32_is (n : Nat) (x y : UInt32) : cCmp32 n x y = some (if x.toNat < y.toNat then -1 else if y.toNat < x.toNat then 1 else 0) := by
 unfold cCmp32 cisNaN32
 simp only [Option.bind_some, bne_self_eq_false, cond_false, ← UInt32.lt_iff_toNat_lt]
 by_cases h : x < y
 ·simp [h]
 ·by_cases h2 : y < x <;> simp [h, h2]
def cmpN (x y : Nat) : Int := if x < y then -1 else if y < x then 1 else 0
theorem cmpN_lt {x y : Nat} (h : x < y) : cmpN x y = -1 := if_pos h
theorem cmpN_gt {x y : Nat} (h : y < x) : cmpN x y = 1 := by unfold cmpN; rw [if_neg (by omega), if_pos h]
theorem cmpN_eq {x y : Nat} (h : x = y) : cmpN x y = 0 := by unfold cmpN; rw [if_neg (by omega), if_neg (by omega)]
theorem cmpN_neg {x y : Nat} : cmpN x y < 0 ↔ x < y := by unfold cmpN; split <;> (try split) <;> omega
theorem cmpN_zero {x y : Nat} : cmpN x y = 0 ↔ x = y := by unfold cmpN; split <;> (try split) <;> omega
theorem mul_pow_lt {p x y c d : Nat} (hc : c < p) (h : x < y) : c + p * x < d + p * y := by
 have : p * (x + 1) ≤ p * y := Nat.mul_le_mul_left p h
 rw [Nat.mul_add] at this; omega
theorem pCmp_l1_is (n : Nat) (a b x y u v : List UInt32) (lu : Nat) (hu : (a.drop 0).take lu = u) (hv : (b.drop 0).take lu = v) (h1 : u.length = lu) (h2 : v.length = lu) (hlu : lu ≤ 1000000) : ∀ (j fu : Nat), j < fu → j ≤ lu → nV (u.drop j) = nV (v.drop j) →
  pCmp_l1 n a b (x, lu) (y, lu) fu ((j : Int) - 1) = some (cmpN (nV u) (nV v)) := by
 intro j
 induction j with
 | zero =>
  intro fu hf _ he
  cases fu with
  | zero => omega
  | succ fu => rw [pCmp_l1, ite_f (by simp), cmpN_eq (by simpa using he)]
 | succ j ih =>
  intro fu hf hj he
  cases fu with
  | zero => omega
  | succ fu =>
   have e : (((j + 1 : Nat) : Int) - 1) = (j : Int) := by omega
   have e1 := V_drop u j (by omega)
   have e2 := V_drop v j (by omega)
   have s1 := V_split u j
   have s2 := V_split v j
   have l1 := V_lt (u.take j)
   have l2 := V_lt (v.take j)
   have m1 : (u.take j).length = j := by simp; omega
   have m2 : (v.take j).length = j := by simp; omega
   rw [m1] at l1; rw [m2] at l2
   rw [e, pCmp_l1, ite_t (by simp), gd_pos (by omega), gd_pos (by omega), gd_pos (by omega), gd_pos (by omega), cCmp32_is]
   simp only [Option.bind_some, Int.toNat_natCast, hu, hv]
   by_cases hlt : (u.getD j 0).toNat < (v.getD j 0).toNat
   ·rw [if_pos hlt, ite_t (by rfl), cmpN_lt]
    rw [s1, s2]
    exact mul_pow_lt l1 (by omega)
   ·by_cases hgt : (v.getD j 0).toNat < (u.getD j 0).toNat
    ·rw [if_neg hlt, if_pos hgt, ite_t (by rfl), cmpN_gt]
     rw [s1, s2]
     exact mul_pow_lt l2 (by omega)
    ·rw [if_neg hlt, if_neg hgt, ite_f (by rfl), gd_pos (okI64 (by omega) (by omega))]
     exact ih fu (by omega) (by omega) (by omega)
theorem pCmp_is {n : Nat} (hn : 18446744073709551616 ≤ n) {a b : List UInt32} (ha : a.length ≤ 1000000) (hb : b.length ≤ 1000000) : pCmp n a b = some (cmpN (nV a) (nV b)) := by
 have la := D_le (a := a)
 have lb := D_le (a := b)
 unfold pCmp
 rw [ptrim_is hn ha, ptrim_is hn hb]
 simp only [Option.bind_some]
 rw [cCmp_is]
 simp only [Option.bind_some]
 by_cases h : (nD (nV a)).length < (nD (nV b)).length
 ·rw [if_pos (by omega), ite_t (by rfl), cmpN_lt]
  have h1 := (D_len (nV a) (nD (nV a)).length).1 (by omega)
  have h2 := mt (D_len (nV b) (nD (nV a)).length).2 (by omega)
  omega
 ·by_cases h' : (nD (nV b)).length < (nD (nV a)).length
  ·rw [if_neg (by omega), if_pos (by omega), ite_t (by rfl), cmpN_gt]
   have h1 := (D_len (nV b) (nD (nV b)).length).1 (by omega)
   have h2 := mt (D_len (nV a) (nD (nV b)).length).2 (by omega)
   omega
  ·rw [if_neg (by omega), if_neg (by omega), ite_f (by rfl), gd_pos (okI64 (by omega) (by omega))]
   have hl : (nD (nV b)).length = (nD (nV a)).length := by omega
   have := pCmp_l1_is n a b a b (nD (nV a)) (nD (nV b)) (nD (nV a)).length (tk ha) (by rw [← hl]; exact tk hb) rfl hl (by omega) (nD (nV a)).length n (by omega) (by omega) (by
    rw [List.drop_of_length_le (by omega), List.drop_of_length_le (by omega)])
   rw [V_D, V_D] at this
   rw [hl]; exact this
theorem V_take' (l : List UInt32) (i : Nat) : nV (l.take (i + 1)) = nV (l.take i) + 4294967296 ^ i * (l.getD i 0).toNat := by
 by_cases h : i < l.length
 ·exact V_take l i h
 ·rw [List.take_of_length_le (by omega), List.take_of_length_le (by omega), List.getD_eq_getElem?_getD, List.getElem?_eq_none (by omega)]; simp
def Nz (l : List UInt32) (i : Nat) : Prop := ∀ k, i ≤ k → l.getD k 0 = 0
theorem Nz.rep (n : Nat) : Nz (List.replicate n 0) 0 := by
 intro k _
 rw [List.getD_eq_getElem?_getD, List.getElem?_replicate]; split <;> rfl
theorem Nz.set {l : List UInt32} {i : Nat} (h : Nz l i) (x : UInt32) : Nz (l.set i x) (i + 1) := by
 intro k hk
 have := h k (by omega)
 rw [List.getD_eq_getElem?_getD] at *
 rw [List.getElem?_set_ne (by omega)]; exact this
theorem getD_set_ne {α : Type} {z : α} (l : List α) {i k : Nat} (x : α) (h : i ≠ k) : (l.set i x).getD k z = l.getD k z := by
 rw [List.getD_eq_getElem?_getD, List.getD_eq_getElem?_getD, List.getElem?_set_ne h]
end Go.Sx
end
