import Derived.Test.YtobfglafchoipaaZ2
import Derived.Test.YtobfglafchoipaaProg
import Derived.Shelf.RegionOpenPlain
import Derived.WalkKit
import Derived.Deep.LoopGhost
import Derived.Lib.Walk
import Derived.Sort.WalkB12
import Derived.Lib.SlicesMore
import Derived.Lib.Strings
import Derived.Lib.Bytealg
import Derived.BigCall
import Derived.Lib.OthersKept
import Derived.Lib.TrimU
import Derived.Lib.DecodeN
import Derived.Deep.Draws
import Derived.Shelf.Abstract
set_option linter.unusedVariables false
set_option linter.unusedSimpArgs false
section
namespace Go.Proofs.Ytobfglafchoipaa
open Go.RowKit Go.Ch Go.Sx
def tabL_npb : List (TypeId × Ti) := [(4, ⟨.bool, 1, 1, true, some [.bool]⟩),
 (5, ⟨.int .u8, 1, 1, true, some [.int .u8]⟩),
 (9, ⟨.str, 1, 16, true, some [.str]⟩),
 (22, ⟨.sl 5, 1, 24, false, some [.nils]⟩),
 (27, ⟨.sl 47, 1, 24, false, some [.nils]⟩),
 (44, ⟨.sl 92, 1, 24, false, some [.nils]⟩),
 (46, ⟨.st [(44, 0), (5, 1), (22, 2)], 3, 56, false, some [.nils, .int .u8, .nils]⟩),
 (47, ⟨.sl 46, 1, 24, false, some [.nils]⟩),
 (92, ⟨.int .u32, 1, 4, true, some [.int .u32]⟩)]
def tab_npb : Tab := fun t => (tabL_npb).lookup t
theorem tabE_npb : (tabL_npb.map fun p => tiOf Try.prog p.1) = tabL_npb.map fun p => some p.2 := by kernel_rfl
theorem tabO_npb : TabOk Try.prog tab_npb := tab_of tabE_npb
def cv1 (n : Nat) (a0_0 : List UInt32) (a0_1 : UInt8) (a0_2 : List UInt8) (a1_0 : List UInt32) (a1_1 : UInt8) (a1_2 : List UInt8) : Option (Bool) :=
 gd (0 + 3 ≤ 3) <|
 (like n a1_0 a1_1 a1_2 a0_0 a0_1 a0_2).bind fun r6 =>
 some r6
def cvIx_l1 (n : Nat) (a0 : List (List UInt32 × (UInt8 × List UInt8))) (a1_0 : List UInt32) (a1_1 : UInt8) (a1_2 : List UInt8) : Nat → Int → Option (Int)
 | 0, _ => none
 | fu_l1 + 1, i8_2 =>
  bif (decide (i8_2 < ((a0.length : Nat) : Int))) then
   gd (0 ≤ i8_2) <|
   gd (i8_2 < ((a0.length : Nat) : Int)) <|
   (cv1 n ((a0.getD i8_2.toNat ([], (0, []))).1) ((a0.getD i8_2.toNat ([], (0, []))).2.1) ((a0.getD i8_2.toNat ([], (0, []))).2.2) a1_0 a1_1 a1_2).bind fun r16_3 =>
   bif r16_3 then
    some i8_2
   else
    gd (okI .i64 (i8_2 + 1)) <|
    (cvIx_l1 n a0 a1_0 a1_1 a1_2 fu_l1) (i8_2 + 1)
  else
   some (-1)
def cvIx (n : Nat) (a0 : List (List UInt32 × (UInt8 × List UInt8))) (a1_0 : List UInt32) (a1_1 : UInt8) (a1_2 : List UInt8) : Option (Int) :=
 cvIx_l1 n a0 a1_0 a1_1 a1_2 n 0
def cvCF (n : Nat) (a0 : List (List UInt32 × (UInt8 × List UInt8))) (a1_0 : List UInt32) (a1_1 : UInt8) (a1_2 : List UInt8) : Option (Bool) :=
 (cvIx n a0 a1_0 a1_1 a1_2).bind fun r7 =>
 some (decide ((0 : Int) ≤ r7))
def covers_l1 (n : Nat) (a0 : List (List UInt32 × (UInt8 × List UInt8))) (a1 : List (List UInt32 × (UInt8 × List UInt8))) : Nat → Int → Option (Bool)
 | 0, _ => none
 | fu_l1 + 1, i9_2 =>
  bif (decide (i9_2 < ((a0.length : Nat) : Int))) then
   gd (0 ≤ i9_2) <|
   gd (i9_2 < ((a0.length : Nat) : Int)) <|
   (cvCF n a1 ((a0.getD i9_2.toNat ([], (0, []))).1) ((a0.getD i9_2.toNat ([], (0, []))).2.1) ((a0.getD i9_2.toNat ([], (0, []))).2.2)).bind fun r15_3 =>
   bif (!r15_3) then
    some false
   else
    gd (okI .i64 (i9_2 + 1)) <|
    (covers_l1 n a0 a1 fu_l1) (i9_2 + 1)
  else
   some true
def covers (n : Nat) (a0 : List (List UInt32 × (UInt8 × List UInt8))) (a1 : List (List UInt32 × (UInt8 × List UInt8))) : Option (Bool) :=
 covers_l1 n a0 a1 n 0
def sAlike_l1 (n : Nat) (a0 : List (List (List UInt32 × (UInt8 × List UInt8)))) (a1 : List (List (List UInt32 × (UInt8 × List UInt8)))) : Nat → Int → Option (Bool)
 | 0, _ => none
 | fu_l1 + 1, i13_2 =>
  bif (decide (i13_2 < ((a0.length : Nat) : Int))) then
   gd (0 ≤ i13_2) <|
   gd (i13_2 < ((a0.length : Nat) : Int)) <|
   gd (0 ≤ i13_2) <|
   gd (i13_2 < ((a1.length : Nat) : Int)) <|
   (covers n (a0.getD i13_2.toNat []) (a1.getD i13_2.toNat [])).bind fun r24_3 =>
   bif (!r24_3) then
    some false
   else
    gd (0 ≤ i13_2) <|
    gd (i13_2 < ((a1.length : Nat) : Int)) <|
    gd (0 ≤ i13_2) <|
    gd (i13_2 < ((a0.length : Nat) : Int)) <|
    (covers n (a1.getD i13_2.toNat []) (a0.getD i13_2.toNat [])).bind fun r35_3 =>
    bif (!r35_3) then
     some false
    else
     gd (okI .i64 (i13_2 + 1)) <|
     (sAlike_l1 n a0 a1 fu_l1) (i13_2 + 1)
  else
   some true
def sAlike (n : Nat) (a0 : List (List (List UInt32 × (UInt8 × List UInt8)))) (a1 : List (List (List UInt32 × (UInt8 × List UInt8)))) : Option (Bool) :=
 bif (((a0.length : Nat) : Int) != ((a1.length : Nat) : Int)) then
 some false
 else
 sAlike_l1 n a0 a1 n 0
def sWithin (n : Nat) (a0 : List (List (List UInt32 × (UInt8 × List UInt8)))) (a1 : List (List (List UInt32 × (UInt8 × List UInt8)))) : Option (Bool) :=
 bif (decide (((a1.length : Nat) : Int) ≤ ((a0.length : Nat) : Int))) then
  gd (0 ≤ ((a1.length : Nat) : Int)) <|
  gd (((a1.length : Nat) : Int) ≤ ((a0.length : Nat) : Int)) <|
  (sAlike n ((a0.drop 0).take (((a1.length : Nat) : Int).toNat)) a1).bind fun r16 =>
  some r16
 else
  some false
def lup (n : Nat) : Option (Bool) :=
 (sPlain n [32, 32, 65, 98, 32, 32, 67, 32]).bind fun r3 =>
 bif (r3 == ([97, 98, 32, 99] : List UInt8)) then
  (sWithin n ([([([], (0, [97]))] : List (List UInt32 × (UInt8 × List UInt8)))] : List (List (List UInt32 × (UInt8 × List UInt8)))) ([] : List (List (List UInt32 × (UInt8 × List UInt8))))).bind fun r12 =>
  bif r12 then
   (sWithin n ([] : List (List (List UInt32 × (UInt8 × List UInt8)))) ([([([], (0, [97]))] : List (List UInt32 × (UInt8 × List UInt8)))] : List (List (List UInt32 × (UInt8 × List UInt8))))).bind fun r20 =>
   some (!r20)
  else
   some false
 else
  some false
def cv1_R (r : Bool) : S := ⟨[(3, kB r)], [], []⟩
def cv1_ct (n : Nat) (r : Bool) : Ct := ctc (rSt (lC (cW 92) (lC cU8 (lC (cB 5) lN)))).rd fun _ y0 => ctc (rPt 46 (lC (cW 92) (lC cU8 (lC (cB 5) lN)))).rd fun _ y1 => ct0 fun H => ([cv1 n y0.1 y0.2.1 y0.2.2.1 y1.1 y1.2.1 y1.2.2.1 = some r], shA H.length (kB r), shH H.length [])
theorem cv1_ok (n : Nat) (r : Bool) : FnOk Try.prog Tr 38 (cv1_ct n r) := by
 refine fnok Try.func38 ?_
 refine HO_c (rSt (lC (cW 92) (lC cU8 (lC (cB 5) lN)))) fun p0 _ => ?_
 obtain ⟨l0_0, l0_1, l0_2, _⟩ := p0
 refine HO_c (rPt 46 (lC (cW 92) (lC cU8 (lC (cB 5) lN)))) fun p1 _ => ?_
 obtain ⟨l1_0, l1_1, l1_2, _⟩ := p1
 refine HO_0 tabO_npb (cv1_R r) [.tmp 3] [] 7 Try.func38 fun w hG h => ?_
 have h : cv1 n l0_0 l0_1 l0_2 l1_0 l1_1 l1_2 = some r := h
 unfold cv1 at h
 have hT := tabO_npb
 refine Vrs hT [4, 2, 3, 5, 0, 1] ⟨[(1, kP 0 0), (2, kP 3 0)], [], [⟨(.ro false), 46, 1, 3, .c [.wh 1, .s (.u8 l1_1), .wh 2]⟩, ow 92 l1_0, ob 5 l1_2, ⟨.blk, 46, 1, 3, .c [.wh 4, .s (.u8 l0_1), .wh 5]⟩, ow 92 l0_0, ob 5 l0_2]⟩ ?_
 obtain ⟨g1, h⟩ := gd_some h
 obtain ⟨r6, g2, h⟩ := bind_some' h
 refine Vgs hT (fT 2 (like_ok n r6) fN) [] [] [] ⟨[(3, kB r6)], [], []⟩ (aP g1 (aP g2 aN)) ?_
 refine Vc [] [] (cv1_R r6) (W_ret ?_)
 exact ⟨.inl rfl, by cases h; rfl⟩
def cvIx_l1_E (a0 : List (List UInt32 × (UInt8 × List UInt8))) (a1_0 : List UInt32) (a1_1 : UInt8) (a1_2 : List UInt8) (i8_2 : Int) : S := ⟨[(0, kH 0), (1, .c (.fp 38 1 0)), (7, kI ((a0.length : Nat) : Int)), (8, kI i8_2)], [], [⟨.dp, 46, 3, a0.length, .d (.pr (.wo 92) (.pr .u8 (.by 5))) a0⟩, ⟨(.ro false), 46, 1, 3, .c [.wh 2, .s (.u8 a1_1), .wh 3]⟩, ow 92 a1_0, ob 5 a1_2]⟩
abbrev cvIx_l1_P (n : Nat) (a0 : List (List UInt32 × (UInt8 × List UInt8))) (a1_0 : List UInt32) (a1_1 : UInt8) (a1_2 : List UInt8) (r : Int) (fu : Nat) : S → Prop := fun s => ∃ (i8_2 : Int), s = cvIx_l1_E a0 a1_0 a1_1 a1_2 i8_2 ∧ cvIx_l1 n a0 a1_0 a1_1 a1_2 fu i8_2 = some r
def cvIx_R (r : Int) : S := ⟨[(4, kI r)], [], []⟩
def cvIx_ct (n : Nat) (r : Int) : Ct := ctc (rD 46 (.pr (.wo 92) (.pr .u8 (.by 5)))).rd fun _ l0 => ctc (rCl 38 46 (lC (cW 92) (lC cU8 (lC (cB 5) lN)))).rd fun _ y1 => ct0 fun H => ([cvIx n l0 y1.1 y1.2.1 y1.2.2.1 = some r], shA H.length (kI r), shH H.length [])
theorem cvIx_ok (n : Nat) (r : Int) : FnOk Try.prog Tr 60 (cvIx_ct n r) := by
 refine fnok Try.func60 ?_
 refine HO_c (rD 46 (.pr (.wo 92) (.pr .u8 (.by 5)))) fun (l0 : List (List UInt32 × (UInt8 × List UInt8))) _ => HO_c (rCl 38 46 (lC (cW 92) (lC cU8 (lC (cB 5) lN)))) fun p1 _ => ?_
 obtain ⟨l1_0, l1_1, l1_2, _⟩ := p1
 refine HO_0 tabO_npb (cvIx_R r) [.tmp 4] [] 19 Try.func60 fun w hG h => ?_
 have h : cvIx n l0 l1_0 l1_1 l1_2 = some r := h
 unfold cvIx at h
 have hT := tabO_npb
 refine Vrs hT [0, 3, 1, 2] ⟨[(0, kH 0), (1, .c (.fp 38 1 0))], [], [⟨.dp, 46, 3, l0.length, .d (.pr (.wo 92) (.pr .u8 (.by 5))) l0⟩, ⟨(.ro false), 46, 1, 3, .c [.wh 2, .s (.u8 l1_1), .wh 3]⟩, ow 92 l1_0, ob 5 l1_2]⟩ ?_
 refine W_seq ?_
 refine Vrs hT [0, 1, 2, 3] ⟨[(0, kH 0), (1, .c (.fp 38 1 0)), (7, kI ((l0.length : Nat) : Int)), (8, kI 0)], [], [⟨.dp, 46, 3, l0.length, .d (.pr (.wo 92) (.pr .u8 (.by 5))) l0⟩, ⟨(.ro false), 46, 1, 3, .c [.wh 2, .s (.u8 l1_1), .wh 3]⟩, ow 92 l1_0, ob 5 l1_2]⟩ ?_
 refine W_block ?_
 refine Vc [] [0, 1, 2, 3] (cvIx_l1_E l0 l1_0 l1_1 l1_2 0) (W_lp ((cvIx_l1_P n l0 l1_0 l1_1 l1_2 r)) n ⟨_, rfl, h⟩ ?_)
 rintro fu_l1 _ ⟨i8_2, rfl, h⟩
 cases fu_l1 with
 | zero => cases h
 | succ fu_l1 =>
  refine ⟨fu_l1, rfl, ?_⟩
  rw [cvIx_l1] at h
  refine Vrs hT [0, 1, 2, 3] ⟨[(0, kH 0), (1, .c (.fp 38 1 0)), (7, kI ((l0.length : Nat) : Int)), (8, kI i8_2), (9, kB (decide (i8_2 < ((l0.length : Nat) : Int))))], [], [⟨.dp, 46, 3, l0.length, .d (.pr (.wo 92) (.pr .u8 (.by 5))) l0⟩, ⟨(.ro false), 46, 1, 3, .c [.wh 2, .s (.u8 l1_1), .wh 3]⟩, ow 92 l1_0, ob 5 l1_2]⟩ ?_
  refine W_seq ?_
  refine Vi ((decide (i8_2 < ((l0.length : Nat) : Int)))) (fun g6 => ?_) (fun g6 => ?_)
  ·replace h := bif_t h g6
   refine W_skip ?_
   refine W_seq ?_
   refine W_block ?_
   refine Vrs hT [0, 1, 2, 3] ⟨[(0, kH 0), (1, .c (.fp 38 1 0)), (5, kI i8_2), (7, kI ((l0.length : Nat) : Int)), (8, kI i8_2)], [], [⟨.dp, 46, 3, l0.length, .d (.pr (.wo 92) (.pr .u8 (.by 5))) l0⟩, ⟨(.ro false), 46, 1, 3, .c [.wh 2, .s (.u8 l1_1), .wh 3]⟩, ow 92 l1_0, ob 5 l1_2]⟩ ?_
   obtain ⟨g1, g2, h⟩ := gd2 h
   obtain ⟨r16_3, g3, h⟩ := bind_some' h
   refine Vgs hT (fT 5 (cv1_ok n r16_3) fN) [] [] [0, 1, 2, 3] ⟨[(0, kH 0), (1, .c (.fp 38 1 0)), (5, kI i8_2), (7, kI ((l0.length : Nat) : Int)), (8, kI i8_2), (16, kB r16_3)], [], [⟨.dp, 46, 3, l0.length, .d (.pr (.wo 92) (.pr .u8 (.by 5))) l0⟩, ⟨(.ro false), 46, 1, 3, .c [.wh 2, .s (.u8 l1_1), .wh 3]⟩, ow 92 l1_0, ob 5 l1_2]⟩ (aP g1 (aP g2 (aP g3 aN))) ?_
   refine Vi (r16_3) (fun g5 => ?_) (fun g5 => ?_)
   ·replace h := bif_t h g5
    refine Vrs hT [] ⟨[(4, kI i8_2)], [], []⟩ ?_
    refine Vc [] [] (cvIx_R i8_2) (W_ret ?_)
    exact ⟨.inl rfl, by cases h; rfl⟩
   ·replace h := bif_f h g5
    refine W_skip ?_
    obtain ⟨g4, h⟩ := gd_some h
    refine Vg hT fN [] [] [0, 1, 2, 3] (cvIx_l1_E l0 l1_0 l1_1 l1_2 (i8_2 + 1)) (aP g4 aN) ?_
    exact ⟨_, rfl, h⟩
  ·replace h := bif_f h g6
   refine Vc [] [] ⟨[], [], []⟩ (W_exit ?_)
   refine Vrs hT [] ⟨[(4, kI (-1))], [], []⟩ ?_
   refine Vc [] [] (cvIx_R (-1)) (W_ret ?_)
   exact ⟨.inl rfl, by cases h; rfl⟩
def cvCF_R (r : Bool) : S := ⟨[(4, kB r)], [], []⟩
def cvCF_ct (n : Nat) (r : Bool) : Ct := ctc (rD 46 (.pr (.wo 92) (.pr .u8 (.by 5)))).rd fun _ l0 => ctc (rCl 38 46 (lC (cW 92) (lC cU8 (lC (cB 5) lN)))).rd fun _ y1 => ct0 fun H => ([cvCF n l0 y1.1 y1.2.1 y1.2.2.1 = some r], shA H.length (kB r), shH H.length [])
theorem cvCF_ok (n : Nat) (r : Bool) : FnOk Try.prog Tr 37 (cvCF_ct n r) := by
 refine fnok Try.func37 ?_
 refine HO_c (rD 46 (.pr (.wo 92) (.pr .u8 (.by 5)))) fun (l0 : List (List UInt32 × (UInt8 × List UInt8))) _ => HO_c (rCl 38 46 (lC (cW 92) (lC cU8 (lC (cB 5) lN)))) fun p1 _ => ?_
 obtain ⟨l1_0, l1_1, l1_2, _⟩ := p1
 refine HO_0 tabO_npb (cvCF_R r) [.tmp 4] [] 9 Try.func37 fun w hG h => ?_
 have h : cvCF n l0 l1_0 l1_1 l1_2 = some r := h
 unfold cvCF at h
 have hT := tabO_npb
 refine Vrs hT [0, 3, 1, 2] ⟨[(0, kH 0), (1, .c (.fp 38 1 0))], [], [⟨.dp, 46, 3, l0.length, .d (.pr (.wo 92) (.pr .u8 (.by 5))) l0⟩, ⟨(.ro false), 46, 1, 3, .c [.wh 2, .s (.u8 l1_1), .wh 3]⟩, ow 92 l1_0, ob 5 l1_2]⟩ ?_
 obtain ⟨r7, g1, h⟩ := bind_some' h
 refine Vgs hT (fT 2 (cvIx_ok n r7) fN) [] [] [] ⟨[(4, kB (decide ((0 : Int) ≤ r7)))], [], []⟩ (aP g1 aN) ?_
 refine Vc [] [] (cvCF_R (decide ((0 : Int) ≤ r7))) (W_ret ?_)
 exact ⟨.inl rfl, by cases h; rfl⟩
def covers_l1_E (a0 : List (List UInt32 × (UInt8 × List UInt8))) (a1 : List (List UInt32 × (UInt8 × List UInt8))) (i9_2 : Int) : S := ⟨[(1, kH 0), (7, kH 1), (8, kI ((a0.length : Nat) : Int)), (9, kI i9_2)], [], [⟨.dp, 46, 3, a1.length, .d (.pr (.wo 92) (.pr .u8 (.by 5))) a1⟩, ⟨.dp, 46, 3, a0.length, .d (.pr (.wo 92) (.pr .u8 (.by 5))) a0⟩]⟩
abbrev covers_l1_P (n : Nat) (a0 : List (List UInt32 × (UInt8 × List UInt8))) (a1 : List (List UInt32 × (UInt8 × List UInt8))) (r : Bool) (fu : Nat) : S → Prop := fun s => ∃ (i9_2 : Int), s = covers_l1_E a0 a1 i9_2 ∧ covers_l1 n a0 a1 fu i9_2 = some r
def covers_R (r : Bool) : S := ⟨[(4, kB r)], [], []⟩
def covers_ct (n : Nat) (r : Bool) : Ct := ctc (rD 46 (.pr (.wo 92) (.pr .u8 (.by 5)))).rd fun _ l0 => ctc (rD 46 (.pr (.wo 92) (.pr .u8 (.by 5)))).rd fun _ l1 => ct0 fun H => ([covers n l0 l1 = some r], shA H.length (kB r), shH H.length [])
theorem covers_ok (n : Nat) (r : Bool) : FnOk Try.prog Tr 24 (covers_ct n r) := by
 refine fnok Try.func24 ?_
 refine HO_c (rD 46 (.pr (.wo 92) (.pr .u8 (.by 5)))) fun (l0 : List (List UInt32 × (UInt8 × List UInt8))) _ => HO_c (rD 46 (.pr (.wo 92) (.pr .u8 (.by 5)))) fun (l1 : List (List UInt32 × (UInt8 × List UInt8))) _ => HO_0 tabO_npb (covers_R r) [.tmp 4] [] 18 Try.func24 fun w hG h => ?_
 unfold covers at h
 have hT := tabO_npb
 refine Vrs hT [0, 1] ⟨[(0, kH 0), (1, kH 1)], [], [⟨.dp, 46, 3, l0.length, .d (.pr (.wo 92) (.pr .u8 (.by 5))) l0⟩, ⟨.dp, 46, 3, l1.length, .d (.pr (.wo 92) (.pr .u8 (.by 5))) l1⟩]⟩ ?_
 refine W_seq ?_
 refine Vrs hT [1, 0] ⟨[(1, kH 0), (7, kH 1), (8, kI ((l0.length : Nat) : Int)), (9, kI 0)], [], [⟨.dp, 46, 3, l1.length, .d (.pr (.wo 92) (.pr .u8 (.by 5))) l1⟩, ⟨.dp, 46, 3, l0.length, .d (.pr (.wo 92) (.pr .u8 (.by 5))) l0⟩]⟩ ?_
 refine W_block ?_
 refine Vc [] [0, 1] (covers_l1_E l0 l1 0) (W_lp ((covers_l1_P n l0 l1 r)) n ⟨_, rfl, h⟩ ?_)
 rintro fu_l1 _ ⟨i9_2, rfl, h⟩
 cases fu_l1 with
 | zero => cases h
 | succ fu_l1 =>
  refine ⟨fu_l1, rfl, ?_⟩
  rw [covers_l1] at h
  refine Vrs hT [0, 1] ⟨[(1, kH 0), (7, kH 1), (8, kI ((l0.length : Nat) : Int)), (9, kI i9_2), (10, kB (decide (i9_2 < ((l0.length : Nat) : Int))))], [], [⟨.dp, 46, 3, l1.length, .d (.pr (.wo 92) (.pr .u8 (.by 5))) l1⟩, ⟨.dp, 46, 3, l0.length, .d (.pr (.wo 92) (.pr .u8 (.by 5))) l0⟩]⟩ ?_
  refine W_seq ?_
  refine Vi ((decide (i9_2 < ((l0.length : Nat) : Int)))) (fun g6 => ?_) (fun g6 => ?_)
  ·replace h := bif_t h g6
   refine W_skip ?_
   refine W_seq ?_
   refine W_block ?_
   obtain ⟨g1, g2, h⟩ := gd2 h
   refine Vgs hT fN [] [] [0, 2, 1] ⟨[(1, kH 0), (6, kP 1 0), (7, kH 2), (8, kI ((l0.length : Nat) : Int)), (9, kI i9_2)], [], [⟨.dp, 46, 3, l1.length, .d (.pr (.wo 92) (.pr .u8 (.by 5))) l1⟩, ⟨.blk, 46, 1, 3, .c [.dv 2 [(i9_2.toNat, 0)], .s (.u8 ((l0.getD i9_2.toNat ([], (0, []))).2.1)), .dv 2 [(i9_2.toNat, 2)]]⟩, ⟨.dp, 46, 3, l0.length, .d (.pr (.wo 92) (.pr .u8 (.by 5))) l0⟩]⟩ (aP g1 (aP g2 aN)) ?_
   obtain ⟨r15_3, g3, h⟩ := bind_some' h
   refine Vgs hT (fT 2 (cvCF_ok n r15_3) fN) [] [] [0, 2] ⟨[(1, kH 0), (7, kH 1), (8, kI ((l0.length : Nat) : Int)), (9, kI i9_2), (16, kB (!r15_3))], [], [⟨.dp, 46, 3, l1.length, .d (.pr (.wo 92) (.pr .u8 (.by 5))) l1⟩, ⟨.dp, 46, 3, l0.length, .d (.pr (.wo 92) (.pr .u8 (.by 5))) l0⟩]⟩ (aP g3 aN) ?_
   refine Vi ((!r15_3)) (fun g5 => ?_) (fun g5 => ?_)
   ·replace h := bif_t h g5
    refine Vrs hT [] ⟨[(4, kB false)], [], []⟩ ?_
    refine Vc [] [] (covers_R false) (W_ret ?_)
    exact ⟨.inl rfl, by cases h; rfl⟩
   ·replace h := bif_f h g5
    refine W_skip ?_
    obtain ⟨g4, h⟩ := gd_some h
    refine Vg hT fN [] [] [0, 1] (covers_l1_E l0 l1 (i9_2 + 1)) (aP g4 aN) ?_
    exact ⟨_, rfl, h⟩
  ·replace h := bif_f h g6
   refine Vc [] [] ⟨[], [], []⟩ (W_exit ?_)
   refine Vrs hT [] ⟨[(4, kB true)], [], []⟩ ?_
   refine Vc [] [] (covers_R true) (W_ret ?_)
   exact ⟨.inl rfl, by cases h; rfl⟩
def sAlike_l1_E (a0 : List (List (List UInt32 × (UInt8 × List UInt8)))) (a1 : List (List (List UInt32 × (UInt8 × List UInt8)))) (i13_2 : Int) : S := ⟨[(0, kH 0), (1, kH 1), (12, kI ((a0.length : Nat) : Int)), (13, kI i13_2)], [], [⟨.dp, 47, 1, a0.length, .d (.sl 46 (.pr (.wo 92) (.pr .u8 (.by 5)))) a0⟩, ⟨.dp, 47, 1, a1.length, .d (.sl 46 (.pr (.wo 92) (.pr .u8 (.by 5)))) a1⟩]⟩
abbrev sAlike_l1_P (n : Nat) (a0 : List (List (List UInt32 × (UInt8 × List UInt8)))) (a1 : List (List (List UInt32 × (UInt8 × List UInt8)))) (r : Bool) (fu : Nat) : S → Prop := fun s => ∃ (i13_2 : Int), s = sAlike_l1_E a0 a1 i13_2 ∧ sAlike_l1 n a0 a1 fu i13_2 = some r
def sAlike_R (r : Bool) : S := ⟨[(4, kB r)], [], []⟩
def sAlike_ct (n : Nat) (r : Bool) : Ct := ctc (rD 47 (.sl 46 (.pr (.wo 92) (.pr .u8 (.by 5))))).rd fun _ l0 => ctc (rD 47 (.sl 46 (.pr (.wo 92) (.pr .u8 (.by 5))))).rd fun _ l1 => ct0 fun H => ([sAlike n l0 l1 = some r], shA H.length (kB r), shH H.length [])
theorem sAlike_ok (n : Nat) (r : Bool) : FnOk Try.prog Tr 14 (sAlike_ct n r) := by
 refine fnok Try.func14 ?_
 refine HO_c (rD 47 (.sl 46 (.pr (.wo 92) (.pr .u8 (.by 5))))) fun (l0 : List (List (List UInt32 × (UInt8 × List UInt8)))) _ => HO_c (rD 47 (.sl 46 (.pr (.wo 92) (.pr .u8 (.by 5))))) fun (l1 : List (List (List UInt32 × (UInt8 × List UInt8)))) _ => HO_0 tabO_npb (sAlike_R r) [.tmp 4] [] 39 Try.func14 fun w hG h => ?_
 unfold sAlike at h
 have hT := tabO_npb
 refine Vrs hT [0, 1] ⟨[(0, kH 0), (1, kH 1)], [], [⟨.dp, 47, 1, l0.length, .d (.sl 46 (.pr (.wo 92) (.pr .u8 (.by 5)))) l0⟩, ⟨.dp, 47, 1, l1.length, .d (.sl 46 (.pr (.wo 92) (.pr .u8 (.by 5)))) l1⟩]⟩ ?_
 refine W_seq ?_
 refine Vrs hT [0, 1] ⟨[(0, kH 0), (1, kH 1), (10, kB (((l0.length : Nat) : Int) != ((l1.length : Nat) : Int)))], [], [⟨.dp, 47, 1, l0.length, .d (.sl 46 (.pr (.wo 92) (.pr .u8 (.by 5)))) l0⟩, ⟨.dp, 47, 1, l1.length, .d (.sl 46 (.pr (.wo 92) (.pr .u8 (.by 5)))) l1⟩]⟩ ?_
 refine Vi ((((l0.length : Nat) : Int) != ((l1.length : Nat) : Int))) (fun g15 => ?_) (fun g15 => ?_)
 ·replace h := bif_t h g15
  refine Vrs hT [] ⟨[(4, kB false)], [], []⟩ ?_
  refine Vc [] [] (sAlike_R false) (W_ret ?_)
  exact ⟨.inl rfl, by cases h; rfl⟩
 ·replace h := bif_f h g15
  refine W_skip ?_
  refine W_seq ?_
  refine Vrs hT [0, 1] ⟨[(0, kH 0), (1, kH 1), (12, kI ((l0.length : Nat) : Int)), (13, kI 0)], [], [⟨.dp, 47, 1, l0.length, .d (.sl 46 (.pr (.wo 92) (.pr .u8 (.by 5)))) l0⟩, ⟨.dp, 47, 1, l1.length, .d (.sl 46 (.pr (.wo 92) (.pr .u8 (.by 5)))) l1⟩]⟩ ?_
  refine W_block ?_
  refine Vc [] [0, 1] (sAlike_l1_E l0 l1 0) (W_lp ((sAlike_l1_P n l0 l1 r)) n ⟨_, rfl, h⟩ ?_)
  rintro fu_l1 _ ⟨i13_2, rfl, h⟩
  cases fu_l1 with
  | zero => cases h
  | succ fu_l1 =>
   refine ⟨fu_l1, rfl, ?_⟩
   rw [sAlike_l1] at h
   refine Vrs hT [0, 1] ⟨[(0, kH 0), (1, kH 1), (12, kI ((l0.length : Nat) : Int)), (13, kI i13_2), (14, kB (decide (i13_2 < ((l0.length : Nat) : Int))))], [], [⟨.dp, 47, 1, l0.length, .d (.sl 46 (.pr (.wo 92) (.pr .u8 (.by 5)))) l0⟩, ⟨.dp, 47, 1, l1.length, .d (.sl 46 (.pr (.wo 92) (.pr .u8 (.by 5)))) l1⟩]⟩ ?_
   refine W_seq ?_
   refine Vi ((decide (i13_2 < ((l0.length : Nat) : Int)))) (fun g14 => ?_) (fun g14 => ?_)
   ·replace h := bif_t h g14
    refine W_skip ?_
    refine W_seq ?_
    refine W_block ?_
    refine Vrs hT [0, 1] ⟨[(0, kH 0), (1, kH 1), (5, kI i13_2), (12, kI ((l0.length : Nat) : Int)), (13, kI i13_2)], [], [⟨.dp, 47, 1, l0.length, .d (.sl 46 (.pr (.wo 92) (.pr .u8 (.by 5)))) l0⟩, ⟨.dp, 47, 1, l1.length, .d (.sl 46 (.pr (.wo 92) (.pr .u8 (.by 5)))) l1⟩]⟩ ?_
    refine W_seq ?_
    obtain ⟨g1, g2, g3, g4, h⟩ := gd4 h
    obtain ⟨r24_3, g5, h⟩ := bind_some' h
    rcases Bool.eq_false_or_eq_true (!r24_3) with g6 | g6
    ·replace h := bif_t h g6
     refine Vd hT (fT 8 (covers_ok n r24_3) fN) 20 [(10, true)] [(0, false), (1, false), (12, false), (13, false), (26, false), (35, false)] [] [0, 1] ⟨[(0, kH 0), (1, kH 1), (12, kI ((l0.length : Nat) : Int)), (13, kI i13_2), (37, kB true)], [], [⟨.dp, 47, 1, l0.length, .d (.sl 46 (.pr (.wo 92) (.pr .u8 (.by 5)))) l0⟩, ⟨.dp, 47, 1, l1.length, .d (.sl 46 (.pr (.wo 92) (.pr .u8 (.by 5)))) l1⟩]⟩ (aP g1 (aP g2 (aP g3 (aP g4 (aP g5 (aP g6 aN)))))) ?_
     refine Vi (true) (fun _ => ?_) (fun hb => by cases hb)
     refine Vrs hT [] ⟨[(4, kB false)], [], []⟩ ?_
     refine Vc [] [] (sAlike_R false) (W_ret ?_)
     exact ⟨.inl rfl, by cases h; rfl⟩
    ·replace h := bif_f h g6
     obtain ⟨g7, g8, g9, g10, h⟩ := gd4 h
     obtain ⟨r35_3, g11, h⟩ := bind_some' h
     refine Vd hT (fT 8 (covers_ok n r24_3) (fT 19 (covers_ok n r35_3) fN)) 20 [(10, false)] [(0, false), (1, false), (12, false), (13, false), (26, false), (35, false)] [] [0, 1] ⟨[(0, kH 0), (1, kH 1), (12, kI ((l0.length : Nat) : Int)), (13, kI i13_2), (37, kB (!r35_3))], [], [⟨.dp, 47, 1, l0.length, .d (.sl 46 (.pr (.wo 92) (.pr .u8 (.by 5)))) l0⟩, ⟨.dp, 47, 1, l1.length, .d (.sl 46 (.pr (.wo 92) (.pr .u8 (.by 5)))) l1⟩]⟩ (aP g1 (aP g2 (aP g3 (aP g4 (aP g5 (aP g6 (aP g7 (aP g8 (aP g9 (aP g10 (aP g11 aN))))))))))) ?_
     refine Vi ((!r35_3)) (fun g13 => ?_) (fun g13 => ?_)
     ·replace h := bif_t h g13
      refine Vrs hT [] ⟨[(4, kB false)], [], []⟩ ?_
      refine Vc [] [] (sAlike_R false) (W_ret ?_)
      exact ⟨.inl rfl, by cases h; rfl⟩
     ·replace h := bif_f h g13
      refine W_skip ?_
      obtain ⟨g12, h⟩ := gd_some h
      refine Vg hT fN [] [] [0, 1] (sAlike_l1_E l0 l1 (i13_2 + 1)) (aP g12 aN) ?_
      exact ⟨_, rfl, h⟩
   ·replace h := bif_f h g14
    refine Vc [] [] ⟨[], [], []⟩ (W_exit ?_)
    refine Vrs hT [] ⟨[(4, kB true)], [], []⟩ ?_
    refine Vc [] [] (sAlike_R true) (W_ret ?_)
    exact ⟨.inl rfl, by cases h; rfl⟩
def sWithin_R (r : Bool) : S := ⟨[(4, kB r)], [], []⟩
def sWithin_ct (n : Nat) (r : Bool) : Ct := ctc (rD 47 (.sl 46 (.pr (.wo 92) (.pr .u8 (.by 5))))).rd fun _ l0 => ctc (rD 47 (.sl 46 (.pr (.wo 92) (.pr .u8 (.by 5))))).rd fun _ l1 => ct0 fun H => ([sWithin n l0 l1 = some r], shA H.length (kB r), shH H.length [])
theorem sWithin_ok (n : Nat) (r : Bool) : FnOk Try.prog Tr 16 (sWithin_ct n r) := by
 refine fnok Try.func16 ?_
 refine HO_c (rD 47 (.sl 46 (.pr (.wo 92) (.pr .u8 (.by 5))))) fun (l0 : List (List (List UInt32 × (UInt8 × List UInt8)))) _ => HO_c (rD 47 (.sl 46 (.pr (.wo 92) (.pr .u8 (.by 5))))) fun (l1 : List (List (List UInt32 × (UInt8 × List UInt8)))) _ => HO_0 tabO_npb (sWithin_R r) [.tmp 4] [] 18 Try.func16 fun w hG h => ?_
 unfold sWithin at h
 have hT := tabO_npb
 refine Vrs hT [0, 1] ⟨[(0, kH 0), (1, kH 1)], [], [⟨.dp, 47, 1, l0.length, .d (.sl 46 (.pr (.wo 92) (.pr .u8 (.by 5)))) l0⟩, ⟨.dp, 47, 1, l1.length, .d (.sl 46 (.pr (.wo 92) (.pr .u8 (.by 5)))) l1⟩]⟩ ?_
 refine W_seq ?_
 rcases Bool.eq_false_or_eq_true (decide (((l1.length : Nat) : Int) ≤ ((l0.length : Nat) : Int))) with g1 | g1
 ·replace h := bif_t h g1
  obtain ⟨g2, g3, h⟩ := gd2 h
  obtain ⟨r16, g4, h⟩ := bind_some' h
  refine Vg hT (fT 11 (sAlike_ok n r16) fN) [(5, true)] [] [] ⟨[(4, kB r16)], [], []⟩ (aP g1 (aP g2 (aP g3 (aP g4 aN)))) ?_
  refine Vc [] [] (sWithin_R r16) (W_ret ?_)
  exact ⟨.inl rfl, by cases h; rfl⟩
 ·replace h := bif_f h g1
  refine Vg hT fN [(5, false)] [] [] ⟨[(4, kB false)], [], []⟩ (aP g1 aN) ?_
  refine Vc [] [] (sWithin_R false) (W_ret ?_)
  exact ⟨.inl rfl, by cases h; rfl⟩
def lup_R (r : Bool) : S := ⟨[(0, kB r)], [], []⟩
def lup_ct (n : Nat) (r : Bool) : Ct := ct0 fun H => ([lup n = some r], shA H.length (kB r), shH H.length [])
theorem lup_ok (n : Nat) (r : Bool) : FnOk Try.prog Tr 10 (lup_ct n r) := by
 refine fnok Try.func10 ?_
 refine HO_0 tabO_npb (lup_R r) [.tmp 0] [] 23 Try.func10 fun w hG h => ?_
 unfold lup at h
 have hT := tabO_npb
 refine Vrs hT [] ⟨[], [], []⟩ ?_
 refine W_seq ?_
 obtain ⟨r3, g1, h⟩ := bind_some' h
 rcases Bool.eq_false_or_eq_true (r3 == ([97, 98, 32, 99] : List UInt8)) with g2 | g2
 ·replace h := bif_t h g2
  obtain ⟨r12, g3, h⟩ := bind_some' h
  rcases Bool.eq_false_or_eq_true r12 with g4 | g4
  ·replace h := bif_t h g4
   obtain ⟨r20, g5, h⟩ := bind_some' h
   refine Vg hT (fT 2 (sPlain_ok n r3) (fT 11 (sWithin_ok n r12) (fT 19 (sWithin_ok n r20) fN))) [(5, true), (13, true)] [] [] ⟨[(0, kB (!r20))], [], []⟩ (aP g1 (aP g2 (aP g3 (aP g4 (aP g5 aN))))) ?_
   refine Vc [] [] (lup_R (!r20)) (W_ret ?_)
   exact ⟨.inl rfl, by cases h; rfl⟩
  ·replace h := bif_f h g4
   refine Vg hT (fT 2 (sPlain_ok n r3) (fT 11 (sWithin_ok n r12) fN)) [(5, true), (13, false)] [] [] ⟨[(0, kB false)], [], []⟩ (aP g1 (aP g2 (aP g3 (aP g4 aN)))) ?_
   refine Vc [] [] (lup_R false) (W_ret ?_)
   exact ⟨.inl rfl, by cases h; rfl⟩
 ·replace h := bif_f h g2
  refine Vg hT (fT 2 (sPlain_ok n r3) fN) [(5, false)] [] [] ⟨[(0, kB false)], [], []⟩ (aP g1 (aP g2 aN)) ?_
  refine Vc [] [] (lup_R false) (W_ret ?_)
  exact ⟨.inl rfl, by cases h; rfl⟩
end Go.Proofs.Ytobfglafchoipaa
end
section
namespace Go.Sx
open Go Go.RowKit Go.Ch Go.Proofs.Ytobfglafchoipaa
theorem drop_at {α : Type} {l : List α} {i : Nat} {z : α} (h : i < l.length) : l.drop i = l.getD i z :: l.drop (i + 1) := by
 rw [List.drop_eq_getElem_cons h, List.getD_eq_getElem?_getD, List.getElem?_eq_getElem h]; rfl
end Go.Sx
end
section
namespace Go.Sx
open Go Go.RowKit Go.Ch Go.Proofs.Ytobfglafchoipaa
abbrev AttrT := List UInt32 × (UInt8 × List UInt8)
def lgA (x : AttrT) : Prop := x.2.2.length ≤ 200 ∧ x.1.length ≤ 30
def lgS (l : List AttrT) : Prop := l.length ≤ 10 ∧ ∀ x ∈ l, lgA x
def lgN (l : List (List AttrT)) : Prop := l.length ≤ 20 ∧ ∀ x ∈ l, lgS x
theorem getD_in {α : Type} {l : List α} {i : Nat} {z : α} (h : i < l.length) : l.getD i z ∈ l := by rw [List.getD_eq_getElem?_getD, List.getElem?_eq_getElem h]; exact List.getElem_mem h
def lgAB (x : AttrT) : Bool := decide (x.2.2.length ≤ 200) && decide (x.1.length ≤ 30)
def lgSB (l : List AttrT) : Bool := decide (l.length ≤ 10) && l.all lgAB
def lgNB (l : List (List AttrT)) : Bool := decide (l.length ≤ 20) && l.all lgSB
theorem lgNB_ok {l : List (List AttrT)} (h : lgNB l = true) : lgN l := by
 unfold lgNB lgSB lgAB at h
 simp only [Bool.and_eq_true, decide_eq_true_eq, List.all_eq_true] at h
 exact h
theorem lig2 {n : Nat} (a : List (List AttrT)) (h20 : a.length ≤ 20) (i : Nat) (hi : i < a.length) (h10 : (a.getD i []).length ≤ 10) (K : Int → Option Bool) : ∀ (fu j : Nat), (a.getD i []).length < j + fu → j ≤ (a.getD i []).length →
  light_l2 n a (i : Int) K fu (j : Int) = bif ((a.getD i []).drop j).all lgAB then K ((i + 1 : Nat) : Int) else some false
 | 0, j, h, h1 => by omega
 | fu + 1, j, h, h1 => by
  rw [light_l2, gd_pos (by omega), gd_pos (by omega), Int.toNat_natCast]
  by_cases hj : j < (a.getD i []).length
  ·rw [ite_t (decide_eq_true (by omega)), gd_pos (by omega), gd_pos (by omega), gd_pos (by omega), gd_pos (by omega), Int.toNat_natCast, drop_at (z := (([], (0, [])) : AttrT)) hj, List.all_cons]
   generalize (a.getD i []).getD j (([], (0, [])) : AttrT) = q
   by_cases h2 : q.2.2.length ≤ 200
   ·rw [ite_f (decide_eq_false (by omega)), gd_pos (by omega), gd_pos (by omega), gd_pos (by omega), gd_pos (by omega)]
    by_cases h3 : q.1.length ≤ 30
    ·rw [ite_f (decide_eq_false (by omega)), gd_pos (okI64 (by omega) (by omega))]
     unfold lgAB
     rw [decide_eq_true h2, decide_eq_true h3]
     exact lig2 a h20 i hi h10 K fu (j + 1) (by omega) hj
    ·rw [ite_t (decide_eq_true (by omega))]
     unfold lgAB
     rw [decide_eq_false h3, Bool.and_false, Bool.false_and]; rfl
   ·rw [ite_t (decide_eq_true (by omega))]
    unfold lgAB
    rw [decide_eq_false h2, Bool.false_and, Bool.false_and]; rfl
  ·rw [ite_f (decide_eq_false (by omega)), List.drop_of_length_le (by omega), gd_pos (okI64 (by omega) (by omega))]; rfl
theorem lig1 {n : Nat} (hn : 500 ≤ n) (a : List (List AttrT)) (h20 : a.length ≤ 20) : ∀ (fu i : Nat), a.length < i + fu → i ≤ a.length → light_l1 n a fu (i : Int) = some ((a.drop i).all lgSB)
 | 0, i, h, h1 => by omega
 | fu + 1, i, h, h1 => by
  rw [light_l1]
  by_cases hi : i < a.length
  ·rw [ite_t (decide_eq_true (by omega)), gd_pos (by omega), gd_pos (by omega), Int.toNat_natCast, drop_at (z := ([] : List AttrT)) hi, List.all_cons]
   by_cases h10 : (a.getD i []).length ≤ 10
   ·rw [ite_f (decide_eq_false (by omega)), show (0 : Int) = ((0 : Nat) : Int) from rfl, lig2 a h20 i hi h10 _ n 0 (by omega) (by omega), lig1 hn a h20 fu (i + 1) (by omega) hi, List.drop_zero]
    unfold lgSB
    rw [decide_eq_true h10, Bool.true_and]
    cases (a.getD i []).all lgAB <;> rfl
   ·rw [ite_t (decide_eq_true (by omega))]
    unfold lgSB
    rw [decide_eq_false h10, Bool.false_and, Bool.false_and]
  ·rw [ite_f (decide_eq_false (by omega)), List.drop_of_length_le (by omega)]; rfl
theorem light_is {n : Nat} (hn : 500 ≤ n) (a : List (List AttrT)) : light n a = some (lgNB a) := by
 unfold light lgNB
 by_cases h : a.length ≤ 20
 ·rw [ite_f (decide_eq_false (by omega)), show (0 : Int) = ((0 : Nat) : Int) from rfl, lig1 hn a h n 0 (by omega) (by omega), decide_eq_true h]; rfl
 ·rw [ite_t (decide_eq_true (by omega)), decide_eq_false h]; rfl
end Go.Sx
end
section
namespace Go.Sx
open Go Go.RowKit Go.Ch Go.Proofs.Ytobfglafchoipaa
theorem lup_is : lup 4100 = some true := by decide +kernel
end Go.Sx
end
section
namespace Go.Proofs.Ytobfglafchoipaa
open Go.RowKit Go.Ch Go.Sx Go.Lib Go.Sort Go.Shelf Go.Proofs
theorem u8_info : (Try.prog.info? 5).map (fun i => (i.zero, i.size, i.bytes)) = some (some (.int .u8 0), 1, 1) := by kernel_rfl
set_option maxHeartbeats 1600000 in
set_option maxRecDepth 1000000 in
theorem rev_arr (blk off cap : Nat) (d : Array UInt8) (w : World) (hH : Holds bU w blk off d) (hsz : d.size ≤ 9223372036854775807) :
  Calls Try.prog 80 #[.slice (some ⟨blk, off, none⟩) d.size cap] w fun e w' => e = .returned (.tuple #[]) ∧ ∃ n, w' = putRow bU (Sort.ahead w n) blk off d.reverse := by
 have mixed : Try.prog.follows .mixedOrders = true := by kernel_rfl
 have t3 : Try.prog.underlying 3 = some (.int .i64) := by kernel_rfl
 have t4 : Try.prog.underlying 4 = some .bool := by kernel_rfl
 have t22 : Try.prog.underlying 22 = some (.slice 5) := by kernel_rfl
 have t5 : Try.prog.underlying 5 = some (.int .u8) := by kernel_rfl
 have a3 : ∀ w, (isAgg 3).run Try.prog w = .ok false w := fun w => run_isAgg_no t3 rfl
 have a4 : ∀ w, (isAgg 4).run Try.prog w = .ok false w := fun w => run_isAgg_no t4 rfl
 have a22 : ∀ w, (isAgg 22).run Try.prog w = .ok false w := fun w => run_isAgg_no t22 rfl
 have a23 : ∀ w, (isAgg 5).run Try.prog w = .ok false w := fun w => run_isAgg_no t5 rfl
 have z3 : ∀ w, (Go.sizeOf 3).run Try.prog w = .ok 1 w := fun w => by kernel_rfl
 have z4 : ∀ w, (Go.sizeOf 4).run Try.prog w = .ok 1 w := fun w => by kernel_rfl
 have z22 : ∀ w, (Go.sizeOf 22).run Try.prog w = .ok 1 w := fun w => by kernel_rfl
 have z23 : ∀ w, (Go.sizeOf 5).run Try.prog w = .ok 1 w := fun w => by kernel_rfl
 go_enter Try.func80, Try.ntmps80
 go_wp2
 go_loopg [2, 3] d.size (fun k s2 s3 wr => ∃ (i jn : Nat) (jz : Int) (dk : Array UInt8) (n : Nat), s2 = .int .i64 i ∧ s3 = .int .i64 jz ∧ ((i : Int) < jz → jz = jn ∧ jn < d.size) ∧ (¬ (i : Int) < jz → ¬ i < jn) ∧ jn - i ≤ k ∧
  dk.size = d.size ∧ wr = putRow bU (Sort.ahead w n) blk off dk ∧ reverseLoop i jn dk = reverseLoop 0 (d.size - 1) d)
 case atStart => exact ⟨0, d.size - 1, (d.size : Int) - 1, d, 0, rfl, rfl, fun h => ⟨by omega, by omega⟩, fun h => by omega, by omega, rfl, (putRow_self bU w blk off d hH).symm, rfl⟩
 case round =>
  obtain ⟨i, jn, jz, dk, n, rfl, rfl, h1, h2, hk, hds, hwr, heq⟩ := hrel
  by_cases hlt : (i : Int) < jz
  ·obtain ⟨rfl, hjn⟩ := h1 hlt
   have hij : i < jn := by omega
   have hHk : Holds bU wr blk off dk := by rw [hwr]; exact holds_putRow bU _ blk off d dk (holds_ahead bU w n blk off d hH) hds
   obtain ⟨ci, fi⟩ := hHk i (by omega)
   obtain ⟨cj, fj⟩ := hHk jn (by omega)
   simp only [bU] at ci cj
   have A : Aside (wr = putRow bU (Sort.ahead w n) blk off dk) := hwr
   clear hwr hHk hH h1 h2
   go_wp2_with fail
   go_region_o
   go_wp2
   go_roundg (jn - 1 - (i + 1))
   case measure => omega
   case rel =>
    rw [reverseLoop, if_pos hij] at heq
    exact ⟨i + 1, jn - 1, (jn : Int) - 1, swp dk i jn, n + 1, by simp, rfl, fun h => ⟨by omega, by omega⟩, fun h => by omega, Nat.le_refl _, by rw [size_swp]; exact hds,
     swap_world bU (by omega) (by omega) A.out (by first | rfl | simp [bU, getElem!_pos, show jn < dk.size by omega]) (by first | rfl | simp [bU, getElem!_pos, show i < dk.size by omega]), heq⟩
  ·have hnot := h2 hlt
   go_wp2
   go_end0
   refine ⟨rfl, n, ?_⟩
   rw [reverseLoop, if_neg hnot] at heq
   rw [← Lib.reverseLoop_reverse, ← heq]
theorem heap_put (w : World) (n blk : Nat) (d : Array UInt8) (k : Nat) : (putRow bU (Sort.ahead w n) blk 0 d).heap[k]? = if blk = k then (w.heap[k]?).map (onCells (putCells bU 0 d)) else w.heap[k]? := by
 show (w.heap.modify blk (onCells (putCells bU 0 d)))[k]? = _
 rw [Array.getElem?_modify]
theorem rev_c (w : World) (B : Nat) (v : Value) (l : List UInt8) (hv : Own w B 5 v (l.map bU)) (hne : l ≠ []) :
  Calls Try.prog 80 #[v] w (Ret fun v' w' => Own w' B 5 v (l.reverse.map bU) ∧ w.grownBy w' v.ownBlock) := by
 obtain ⟨h1, h2⟩ := hv
 rcases h2 with ⟨_, h0⟩ | ⟨g, cap, cur, rfl, hB, hg, hc, hm, hs, ht⟩
 ·rw [List.length_map] at h0
  exact absurd (List.eq_nil_of_length_eq_zero h0) hne
 ·rw [List.length_map] at *
  rw [Nat.mul_one] at ht hs
  have hlen : l.length ≤ cur.size := by omega
  have hH : Holds bU w g 0 l.toArray := by
   intro j hj
   have hj' : j < l.length := by simpa using hj
   have hcj : cur.toList[j]? = some (bU l[j]) := by
    have := congrArg (·[j]?) ht
    simp only [List.getElem?_take, if_pos hj', List.getElem?_map, List.getElem?_eq_getElem hj', Option.map_some] at this
    exact this
   refine ⟨?_, ?_⟩
   ·simp only [World.cell?, hg, Nat.zero_add]
    rw [getElem!_pos l.toArray j hj]
    simpa using hcj
   ·simp only [World.frozen?, hg]
    simp
  have hr := rev_arr g 0 cap l.toArray w hH (by simp; unfold maxLen at hm; omega)
  rw [List.size_toArray] at hr
  refine hr.mono fun e w' ⟨he, n, hw⟩ => ?_
  refine ⟨_, he, ?_, ?_⟩
  ·refine ⟨by simp, .inr ⟨g, cap, putCells bU 0 l.reverse.toArray cur, by simp, hB, ?_, by simpa using hc, hm, ?_, ?_⟩⟩
   ·rw [hw, List.reverse_toArray, heap_put, if_pos rfl, hg]; rfl
   ·simp [putCells, hs]
   ·apply List.ext_getElem?
    intro j
    simp only [List.length_map, List.length_reverse, Nat.mul_one, List.getElem?_take, putCells, Array.getElem?_toList, Array.getElem?_mapIdx, List.getElem?_map]
    by_cases hj : j < l.length
    ·have hjs : j < cur.size := by omega
     have hjr : j < l.reverse.length := by simpa using hj
     rw [if_pos hj, Array.getElem?_eq_getElem hjs, List.getElem?_eq_getElem hjr]
     simp only [Option.map_some, Nat.zero_le, true_and, Nat.zero_add, Nat.sub_zero, List.size_toArray, List.length_reverse, hj, if_true]
     rw [getElem!_pos l.reverse.toArray j (by simpa using hj)]
     simp
    ·rw [if_neg hj, List.getElem?_eq_none (by simpa using hj)]; rfl
  ·refine ⟨by rw [hw]; rfl, by rw [hw]; rfl, by rw [hw]; rfl, by rw [hw]; simp [putRow, mapBlock, Sort.ahead], fun k hk hne => ?_⟩
   rw [hw, List.reverse_toArray, heap_put, if_neg (fun h => hne (by rw [h]; rfl))]
section words
variable {P : Program} {w : World}
theorem run_or8 (t : TypeId) (ex ey : Operand) (x y : UInt8) (w : World) : binRun P .or t ex ey (bU x) (bU y) w = .ok (bU (x ||| y)) w := by
 have e : ∀ x : UInt8, BitVec.ofInt 8 (x.toNat : Int) = x.toBitVec := fun x => by
  rw [BitVec.ofInt_natCast]
  apply BitVec.eq_of_toNat_eq
  simp
 have b : ∀ r : BitVec 8, IntKind.u8.wrap (r.toNat : Int) = (r.toNat : Int) := fun r => by
  have := r.isLt
  rw [IntKind.wrap_u8]; omega
 simp only [binRun, bU, Sem.run_bind, guard_int, Result.andThen_ok]
 simp only [binOp, if_neg (show ¬ (IntKind.u8 ≠ IntKind.u8) by simp), Op.intBits, Sem.run_pure]
 show Result.ok (Value.int .u8 (IntKind.u8.wrap ((BitVec.ofInt 8 (x.toNat : Int) ||| BitVec.ofInt 8 (y.toNat : Int)).toNat : Int))) w = _
 rw [e, e, b]
 rfl
theorem run_gt32 (t : TypeId) (ex ey : Operand) (x y : UInt32) (w : World) : binRun P .gtr t ex ey (w32 x) (w32 y) w = .ok (.bool (decide (y < x))) w := by
 simp only [binRun, w32, Sem.run_bind, guard_int, Result.andThen_ok]
 simp only [binOp, if_neg (show ¬ (IntKind.u32 ≠ IntKind.u32) by simp), Op.intCmp, Sem.run_pure]
 congr 2
 rw [Bool.eq_iff_iff]
 simp [UInt32.lt_iff_toNat_lt]
end words
def grpT : Nat → UInt32 → List UInt8
 | 0, _ => []
 | f + 1, n => if n = 0 then [] else ((n &&& 127).toUInt8 ||| 128) :: grpT f (n >>> 7)
def grp (n : UInt32) : List UInt8 := ((n &&& 127).toUInt8 :: grpT 5 (n >>> 7)).reverse
theorem shr7 (n : UInt32) : (n >>> UInt32.ofNat 7).toNat = n.toNat / 128 := by
 rw [UInt32.toNat_shiftRight, Nat.shiftRight_eq_div_pow]; rfl
theorem shr7' (n : UInt32) : (n >>> 7) = (n >>> UInt32.ofNat 7) := rfl
set_option maxHeartbeats 800000 in
theorem group_c (w : World) (n : UInt32) :
  Calls Try.prog 64 #[w32 n] w (Ret fun v' w' => Ext w w' ∧ Own w' w.heap.size 5 v' ((grp n).map bU)) := by
 obtain ⟨i5, hi5, hz5, hs5, hb5⟩ := info_parts u8_info
 go_enter Try.func64, Try.ntmps64
 go_wp2_with (first
  | ((with_reducible refine g_at (d := 5) ?_); refine wpl_bin rfl rfl (by exact run_and32 _ _ _ n 127 _) ?_; try (conv in (Act.put _ _ _) => simp only [Act.put, List.setIfInBounds_toArray, List.set_cons_succ, List.set_cons_zero]))
  | ((with_reducible refine g_at (d := 6) ?_); refine wpl_conv rfl (by exact conv_wb Try.underlying92 Try.underlying5 _ _) ?_; try (conv in (Act.put _ _ _) => simp only [Act.put, List.setIfInBounds_toArray, List.set_cons_succ, List.set_cons_zero]))
  | ((with_reducible refine g_at (d := 7) ?_); refine wpl_buildSlice (vs := [bU (n &&& 127).toUInt8]) Try.underlying22 hi5 hz5 hs5 rfl (xs := [(.tmp 6)]) rfl rfl rfl (by intro u hu; simp at hu; subst hu; rfl) (by omega) ?_; intro v7 w7 h7 hx7 ha7; try (conv in (Act.put _ _ _) => simp only [Act.put, List.setIfInBounds_toArray, List.set_cons_succ, List.set_cons_zero]))
  | ((with_reducible refine g_at (d := 9) ?_); refine wpl_bin rfl rfl (by exact run_shr32 _ _ _ n .u64 7 (by decide) _) ?_; try (conv in (Act.put _ _ _) => simp only [Act.put, List.setIfInBounds_toArray, List.set_cons_succ, List.set_cons_zero]))
  | ((with_reducible refine g_at (d := 17) ?_); refine wpl_conv rfl (by exact conv_wb Try.underlying92 Try.underlying5 _ _) ?_; try (conv in (Act.put _ _ _) => simp only [Act.put, List.setIfInBounds_toArray, List.set_cons_succ, List.set_cons_zero])))
 generalize ha : (n &&& 127).toUInt8 = a at *
 generalize hm : n >>> UInt32.ofNat 7 = m0
 have hm0 : m0.toNat < 128 ^ 5 := by rw [← hm, shr7]; have := lt32 n; omega
 have hgrp : grp n = (a :: grpT 5 m0).reverse := by unfold grp; rw [ha, shr7', hm]
 have HG := Lib.hid hgrp
 clear hgrp hm ha
 go_loopw [0, 3] (fun nv o wr => ∃ (k : Nat) (m : UInt32) (xs : List UInt8), nv = w32 m ∧ k ≤ 5 ∧ m.toNat < 128 ^ k ∧ xs.length + k = 6 ∧ Own wr w.heap.size 5 o (xs.map bU) ∧ Ext w wr ∧ Hid (xs ++ grpT k m = a :: grpT 5 m0)) (fun nv _ _ => (RowKit.intOf nv).toNat)
 case atStart => exact ⟨5, m0, [a], rfl, Nat.le_refl _, hm0, rfl, h7, hx7, Lib.hid rfl⟩
 case round =>
  obtain ⟨k, m, xs, rfl, hk, hmk, hxl, ho, hx, hxs⟩ := hrel
  by_cases hz : m = 0
  ·have E11 : Hid (∀ t ex ey w, binRun Try.prog .gtr t ex ey (w32 m) (.int .u32 0) w = .ok (.bool false) w) := Lib.hid (fun t ex ey w => (run_gt32 t ex ey m 0 w).trans (by rw [hz]; rfl))
   have HZ := Lib.hid hz
   clear hz
   go_wp2_with (first
    | ((with_reducible refine g_at (d := 11) ?_); refine wpl_bin rfl rfl (by exact E11.out _ _ _ _) ?_; try (conv in (Act.put _ _ _) => simp only [Act.put, List.setIfInBounds_toArray, List.set_cons_succ, List.set_cons_zero]))
    | ((with_reducible refine g_at (d := 22) ?_); refine wpl_call Try.func80 (by kernel_rfl) (by kernel_rfl) rfl (rev_c _ _ _ xs ho (by intro h; rw [h] at hxl; simp at hxl; omega)) ?_; rintro v22 w22 ⟨h22, hg22⟩; try (conv in (Act.put _ _ _) => simp only [Act.put, List.setIfInBounds_toArray, List.set_cons_succ, List.set_cons_zero]))
    | ((with_reducible refine g_at (d := 6) ?_); refine wpl_conv rfl (by exact conv_wb Try.underlying92 Try.underlying5 _ _) ?_; try (conv in (Act.put _ _ _) => simp only [Act.put, List.setIfInBounds_toArray, List.set_cons_succ, List.set_cons_zero]))
    | ((with_reducible refine g_at (d := 17) ?_); refine wpl_conv rfl (by exact conv_wb Try.underlying92 Try.underlying5 _ _) ?_; try (conv in (Act.put _ _ _) => simp only [Act.put, List.setIfInBounds_toArray, List.set_cons_succ, List.set_cons_zero])))
   go_ret
   have hl : xs = a :: grpT 5 m0 := by
    have h := hxs.out
    rw [HZ.out] at h
    have h0 : grpT k 0 = [] := by cases k <;> rfl
    rwa [h0, List.append_nil] at h
   refine ⟨_, rfl, hx.grown hg22 hx.size (fun b hb => (ho.lt b hb).1), ?_⟩
   rw [HG.out, ← hl]; exact h22
  ·have E11 : Hid (∀ t ex ey w, binRun Try.prog .gtr t ex ey (w32 m) (.int .u32 0) w = .ok (.bool true) w) := Lib.hid (fun t ex ey w => (run_gt32 t ex ey m 0 w).trans (by
    rw [decide_eq_true (by
     rw [UInt32.lt_iff_toNat_lt]
     exact Nat.pos_of_ne_zero fun h => hz (UInt32.toNat_inj.1 h))]))
   have HZ := Lib.hid hz
   clear hz
   go_wp2_with (first
    | ((with_reducible refine g_at (d := 11) ?_); refine wpl_bin rfl rfl (by exact E11.out _ _ _ _) ?_; try (conv in (Act.put _ _ _) => simp only [Act.put, List.setIfInBounds_toArray, List.set_cons_succ, List.set_cons_zero]))
    | ((with_reducible refine g_at (d := 16) ?_); refine wpl_bin rfl rfl (by exact run_and32 _ _ _ m 127 _) ?_; try (conv in (Act.put _ _ _) => simp only [Act.put, List.setIfInBounds_toArray, List.set_cons_succ, List.set_cons_zero]))
    | ((with_reducible refine g_at (d := 17) ?_); refine wpl_conv rfl (by exact conv_wb Try.underlying92 Try.underlying5 _ _) ?_; try (conv in (Act.put _ _ _) => simp only [Act.put, List.setIfInBounds_toArray, List.set_cons_succ, List.set_cons_zero]))
    | ((with_reducible refine g_at (d := 18) ?_); refine wpl_bin rfl rfl (by exact run_or8 _ _ _ _ 128 _) ?_; try (conv in (Act.put _ _ _) => simp only [Act.put, List.setIfInBounds_toArray, List.set_cons_succ, List.set_cons_zero]))
    | ((with_reducible refine g_at (d := 19) ?_); refine wpl_buildSlice (vs := [bU ((m &&& 127).toUInt8 ||| 128)]) Try.underlying22 hi5 hz5 hs5 rfl (xs := [(.tmp 18)]) rfl rfl rfl (by intro u hu; simp at hu; subst hu; rfl) (by omega) ?_; intro v19 w19 h19 hx19 ha19; try (conv in (Act.put _ _ _) => simp only [Act.put, List.setIfInBounds_toArray, List.set_cons_succ, List.set_cons_zero]))
    | ((with_reducible refine g_at (d := 20) ?_); refine wpl_append (v := u3) rfl rfl Try.underlying22 hi5 hz5 hs5 hb5 rfl (ho.ext hx19) h19.sl (bU_one [_]) (by first | omega | (simp <;> omega)) (by omega) (Nat.le_trans hx.size hx19.size) ?_; intro v20 w20 h20 hg20 ha20 hx20; try (conv in (Act.put _ _ _) => simp only [Act.put, List.setIfInBounds_toArray, List.set_cons_succ, List.set_cons_zero]))
    | ((with_reducible refine g_at (d := 13) ?_); refine wpl_bin rfl rfl (by exact run_shr32 _ _ _ m .u64 7 (by decide) _) ?_; try (conv in (Act.put _ _ _) => simp only [Act.put, List.setIfInBounds_toArray, List.set_cons_succ, List.set_cons_zero]))
    | ((with_reducible refine g_at (d := 6) ?_); refine wpl_conv rfl (by exact conv_wb Try.underlying92 Try.underlying5 _ _) ?_; try (conv in (Act.put _ _ _) => simp only [Act.put, List.setIfInBounds_toArray, List.set_cons_succ, List.set_cons_zero])))
   go_roundw
   case rel =>
    have hm := HZ.out
    obtain ⟨k, rfl⟩ : ∃ k', k = k' + 1 := ⟨k - 1, by
     cases k with
     | zero => exact absurd (UInt32.toNat_inj.1 (show m.toNat = 0 by simpa using hmk)) hm
     | succ k => rfl⟩
    refine ⟨k, m >>> UInt32.ofNat 7, xs ++ [(m &&& 127).toUInt8 ||| 128], rfl, by omega, ?_, by rw [List.length_append, List.length_singleton]; omega, by rw [List.map_append]; exact h20, (hx.tr hx19).trans hx20, Lib.hid ?_⟩
    ·rw [shr7, Nat.div_lt_iff_lt_mul (by decide)]; rwa [Nat.pow_succ] at hmk
    ·have h := hxs.out
     rw [grpT, if_neg hm, shr7'] at h
     rw [List.append_assoc]; exact h
   case measure =>
    show (((m >>> UInt32.ofNat 7).toNat : Nat) : Int).toNat < ((m.toNat : Nat) : Int).toNat
    rw [shr7, Int.toNat_natCast, Int.toNat_natCast]
    have : m.toNat ≠ 0 := fun h => HZ.out (UInt32.toNat_inj.1 h)
    omega
def group_ct : Ct := fun args H => match args with
 | [.c (.s (.u32 x))] => some ([], .c (.wh H.length), [⟨.row, 5, 1, (grp x).length, .b (grp x)⟩])
 | _ => none
theorem group_h : FnOk Try.prog Tr 64 group_ct := by
 refine ⟨fun args H g av objs hF hg ρ w vals hG hp ha => ?_, _, Try.func64, by kernel_rfl, by kernel_rfl⟩
 unfold group_ct at hF
 split at hF
 ·rename_i x
  simp only [Option.some.injEq, Prod.mk.injEq] at hF
  obtain ⟨rfl, rfl, rfl⟩ := hF
  obtain ⟨v, vals, rfl, k, ha⟩ := F2.inv ha
  obtain rfl := F2.inv0 ha
  have e : v = w32 x := k
  rw [e]
  exact calls_mono (group_c w x) fun v w' ⟨hx, hv⟩ => ⟨hx, left_row hv (fun _ => csR_b.2 rfl) (by simp)⟩
 ·cases hF
end Go.Proofs.Ytobfglafchoipaa
end
section
namespace Go.Proofs.Ytobfglafchoipaa
open Go.RowKit Go.Ch Go.Sx Go.Lib Go.Proofs
set_option maxHeartbeats 1000000 in
set_option maxRecDepth 100000 in
theorem ix_c (w : World) (l : List UInt8) (c : UInt8) :
  Calls Try.prog 87 #[.string ⟨l.toArray⟩, .int .u8 ((c.toNat : Nat) : Int)] w (Ret fun v w' => Ext w w' ∧ v = .int .i64 (Lib.indexByte l c)) := by
 go_enter Try.func87, Try.ntmps87
 go_wp2
 rw [run_callFunc_extern Try.func89 (by kernel_rfl) (by kernel_rfl) (by kernel_rfl) (e := Extern.BytealgIndexByte.indexByte) (by kernel_rfl), Lib.run_indexByteString]
 simp only [Result.andThen]
 rw [Oper.upon_value]
 go_wp2
 go_ret
 refine ⟨_, rfl, Below.refl _ _, ?_⟩
 simp
def ix_ct : Ct := ctc rS.rd fun _ l0 => ctc rU8.rd fun _ l1 => ct0 fun _ => ([], kI (Lib.indexByte l0 l1), [])
theorem ix_h : FnOk Try.prog Tr 87 ix_ct := by
 refine ⟨fun args H g av objs hF hg ρ w vals hG hp ha => ?_, _, Try.func87, by kernel_rfl, by kernel_rfl⟩
 obtain ⟨x0, _, l0, rfl, e0, hF⟩ := ctc_inv hF
 obtain ⟨x1, _, l1, rfl, e1, hF⟩ := ctc_inv hF
 obtain ⟨rfl, rfl, rfl, rfl⟩ := ct0_inv hF
 obtain ⟨v0, vals, rfl, k0, ha⟩ := F2.inv ha
 obtain ⟨v1, vals, rfl, k1, ha⟩ := F2.inv ha
 obtain rfl := F2.inv0 ha
 obtain rfl := aS_ok e0 k0
 obtain rfl := aU8_ok e1 k1
 exact calls_mono (ix_c w l0 l1) fun v w' ⟨hx, hv⟩ => ⟨hx, left_val fun ρ => hv⟩
end Go.Proofs.Ytobfglafchoipaa
end
section
namespace Go.Proofs.Ytobfglafchoipaa
open Go.RowKit Go.Ch Go.Sx
def tabL_ta : List (TypeId × Ti) := [(5, ⟨.int .u8, 1, 1, true, some [.int .u8]⟩),
 (9, ⟨.str, 1, 16, true, some [.str]⟩)]
def tab_ta : Tab := fun t => (tabL_ta).lookup t
theorem tabE_ta : (tabL_ta.map fun p => tiOf Try.prog p.1) = tabL_ta.map fun p => some p.2 := by kernel_rfl
theorem tabO_ta : TabOk Try.prog tab_ta := tab_of tabE_ta
def sIndexByte (n : Nat) (a0 : List UInt8) (a1 : UInt8) : Option (Int) :=
 some (Lib.indexByte a0 a1)
def pprintable (n : Nat) (a0 : UInt8) : Option (Bool) :=
 bif (decide ((97 : UInt8) ≤ a0)) then
  bif (decide (a0 ≤ (122 : UInt8))) then
   some true
  else
   bif (decide ((65 : UInt8) ≤ a0)) then
    bif (decide (a0 ≤ (90 : UInt8))) then
     some true
    else
     bif (decide ((48 : UInt8) ≤ a0)) then
      bif (decide (a0 ≤ (57 : UInt8))) then
       some true
      else
       (sIndexByte n ([32, 39, 40, 41, 43, 44, 45, 46, 47, 58, 61, 63] : List UInt8) a0).bind fun r27 =>
       some (decide ((0 : Int) ≤ r27))
     else
      (sIndexByte n ([32, 39, 40, 41, 43, 44, 45, 46, 47, 58, 61, 63] : List UInt8) a0).bind fun r27 =>
      some (decide ((0 : Int) ≤ r27))
   else
    bif (decide ((48 : UInt8) ≤ a0)) then
     bif (decide (a0 ≤ (57 : UInt8))) then
      some true
     else
      (sIndexByte n ([32, 39, 40, 41, 43, 44, 45, 46, 47, 58, 61, 63] : List UInt8) a0).bind fun r27 =>
      some (decide ((0 : Int) ≤ r27))
    else
     (sIndexByte n ([32, 39, 40, 41, 43, 44, 45, 46, 47, 58, 61, 63] : List UInt8) a0).bind fun r27 =>
     some (decide ((0 : Int) ≤ r27))
 else
  bif (decide ((65 : UInt8) ≤ a0)) then
   bif (decide (a0 ≤ (90 : UInt8))) then
    some true
   else
    bif (decide ((48 : UInt8) ≤ a0)) then
     bif (decide (a0 ≤ (57 : UInt8))) then
      some true
     else
      (sIndexByte n ([32, 39, 40, 41, 43, 44, 45, 46, 47, 58, 61, 63] : List UInt8) a0).bind fun r27 =>
      some (decide ((0 : Int) ≤ r27))
    else
     (sIndexByte n ([32, 39, 40, 41, 43, 44, 45, 46, 47, 58, 61, 63] : List UInt8) a0).bind fun r27 =>
     some (decide ((0 : Int) ≤ r27))
  else
   bif (decide ((48 : UInt8) ≤ a0)) then
    bif (decide (a0 ≤ (57 : UInt8))) then
     some true
    else
     (sIndexByte n ([32, 39, 40, 41, 43, 44, 45, 46, 47, 58, 61, 63] : List UInt8) a0).bind fun r27 =>
     some (decide ((0 : Int) ≤ r27))
   else
    (sIndexByte n ([32, 39, 40, 41, 43, 44, 45, 46, 47, 58, 61, 63] : List UInt8) a0).bind fun r27 =>
    some (decide ((0 : Int) ≤ r27))
def pT1 (n : Nat) (a0 : UInt8) : Option (Bool) :=
 (pprintable n a0).bind fun r4 =>
 some (!r4)
def pT2 (n : Nat) (a0 : UInt8) : Option (Bool) :=
 some (decide ((128 : UInt8) ≤ a0))
def sHasPre0 (n : Nat) (a0 : List UInt8) (a1 : List UInt8) : Option (Bool) :=
 bif (decide (((a1.length : Nat) : Int) ≤ ((a0.length : Nat) : Int))) then
 gd (0 ≤ ((a1.length : Nat) : Int)) <|
 gd (((a1.length : Nat) : Int) ≤ ((a0.length : Nat) : Int)) <|
 some ((a0.take (((a1.length : Nat) : Int).toNat)) == a1)
 else
 some false
def sHasPre (n : Nat) (a0 : List UInt8) (a1 : List UInt8) : Option (Bool) :=
 (sHasPre0 n a0 a1).bind fun r7 =>
 some r7
def sIndexByte_R (r : Int) : S := ⟨[(4, kI r)], [], []⟩
def sIndexByte_ct (n : Nat) (r : Int) : Ct := ctc rS.rd fun _ l0 => ctc rU8.rd fun _ l1 => ct0 fun H => ([sIndexByte n l0 l1 = some r], shA H.length (kI r), shH H.length [])
theorem sIndexByte_ok (n : Nat) (r : Int) : FnOk Try.prog Tr 83 (sIndexByte_ct n r) := by
 refine fnok Try.func83 ?_
 refine HO_c rS fun l0 _ => HO_c rU8 fun l1 _ => HO_0 tabO_ta (sIndexByte_R r) [.tmp 4] [] 8 Try.func83 fun w hG h => ?_
 unfold sIndexByte at h
 have hT := tabO_ta
 refine Vrs hT [] ⟨[(0, kT l0), (1, kU l1)], [], []⟩ ?_
 refine Vgs hT (fT 2 ix_h fN) [] [] [] ⟨[(4, kI (Lib.indexByte l0 l1))], [], []⟩ aN ?_
 refine Vc [] [] (sIndexByte_R (Lib.indexByte l0 l1)) (W_ret ?_)
 exact ⟨.inl rfl, by cases h; rfl⟩
def pprintable_R (r : Bool) : S := ⟨[(2, kB r)], [], []⟩
def pprintable_ct (n : Nat) (r : Bool) : Ct := ctc rU8.rd fun _ l0 => ct0 fun H => ([pprintable n l0 = some r], shA H.length (kB r), shH H.length [])
theorem pprintable_ok (n : Nat) (r : Bool) : FnOk Try.prog Tr 68 (pprintable_ct n r) := by
 refine fnok Try.func68 ?_
 refine HO_c rU8 fun l0 _ => HO_0 tabO_ta (pprintable_R r) [.tmp 2] [] 30 Try.func68 fun w hG h => ?_
 unfold pprintable at h
 have hT := tabO_ta
 refine Vrs hT [] ⟨[(0, kU l0)], [], []⟩ ?_
 refine W_seq ?_
 rcases Bool.eq_false_or_eq_true (decide ((97 : UInt8) ≤ l0)) with g1 | g1
 ·replace h := bif_t h g1
  rcases Bool.eq_false_or_eq_true (decide (l0 ≤ (122 : UInt8))) with g2 | g2
  ·replace h := bif_t h g2
   refine Vg hT fN [(2, true), (6, true)] [] [] ⟨[(2, kB true)], [], []⟩ (aP g1 (aP g2 aN)) ?_
   refine Vc [] [] (pprintable_R true) (W_ret ?_)
   exact ⟨.inl rfl, by cases h; rfl⟩
  ·replace h := bif_f h g2
   rcases Bool.eq_false_or_eq_true (decide ((65 : UInt8) ≤ l0)) with g3 | g3
   ·replace h := bif_t h g3
    rcases Bool.eq_false_or_eq_true (decide (l0 ≤ (90 : UInt8))) with g4 | g4
    ·replace h := bif_t h g4
     refine Vg hT fN [(2, true), (6, false), (9, true), (14, true)] [] [] ⟨[(2, kB true)], [], []⟩ (aP g1 (aP g2 (aP g3 (aP g4 aN)))) ?_
     refine Vc [] [] (pprintable_R true) (W_ret ?_)
     exact ⟨.inl rfl, by cases h; rfl⟩
    ·replace h := bif_f h g4
     rcases Bool.eq_false_or_eq_true (decide ((48 : UInt8) ≤ l0)) with g5 | g5
     ·replace h := bif_t h g5
      rcases Bool.eq_false_or_eq_true (decide (l0 ≤ (57 : UInt8))) with g6 | g6
      ·replace h := bif_t h g6
       refine Vg hT fN [(2, true), (6, false), (9, true), (14, false), (17, true), (22, true)] [] [] ⟨[(2, kB true)], [], []⟩ (aP g1 (aP g2 (aP g3 (aP g4 (aP g5 (aP g6 aN)))))) ?_
       refine Vc [] [] (pprintable_R true) (W_ret ?_)
       exact ⟨.inl rfl, by cases h; rfl⟩
      ·replace h := bif_f h g6
       obtain ⟨r27, g7, h⟩ := bind_some' h
       refine Vg hT (fT 24 (sIndexByte_ok n r27) fN) [(2, true), (6, false), (9, true), (14, false), (17, true), (22, false)] [] [] ⟨[(2, kB (decide ((0 : Int) ≤ r27)))], [], []⟩ (aP g1 (aP g2 (aP g3 (aP g4 (aP g5 (aP g6 (aP g7 aN))))))) ?_
       refine Vc [] [] (pprintable_R (decide ((0 : Int) ≤ r27))) (W_ret ?_)
       exact ⟨.inl rfl, by cases h; rfl⟩
     ·replace h := bif_f h g5
      obtain ⟨r27, g8, h⟩ := bind_some' h
      refine Vg hT (fT 24 (sIndexByte_ok n r27) fN) [(2, true), (6, false), (9, true), (14, false), (17, false)] [] [] ⟨[(2, kB (decide ((0 : Int) ≤ r27)))], [], []⟩ (aP g1 (aP g2 (aP g3 (aP g4 (aP g5 (aP g8 aN)))))) ?_
      refine Vc [] [] (pprintable_R (decide ((0 : Int) ≤ r27))) (W_ret ?_)
      exact ⟨.inl rfl, by cases h; rfl⟩
   ·replace h := bif_f h g3
    rcases Bool.eq_false_or_eq_true (decide ((48 : UInt8) ≤ l0)) with g9 | g9
    ·replace h := bif_t h g9
     rcases Bool.eq_false_or_eq_true (decide (l0 ≤ (57 : UInt8))) with g10 | g10
     ·replace h := bif_t h g10
      refine Vg hT fN [(2, true), (6, false), (9, false), (17, true), (22, true)] [] [] ⟨[(2, kB true)], [], []⟩ (aP g1 (aP g2 (aP g3 (aP g9 (aP g10 aN))))) ?_
      refine Vc [] [] (pprintable_R true) (W_ret ?_)
      exact ⟨.inl rfl, by cases h; rfl⟩
     ·replace h := bif_f h g10
      obtain ⟨r27, g11, h⟩ := bind_some' h
      refine Vg hT (fT 24 (sIndexByte_ok n r27) fN) [(2, true), (6, false), (9, false), (17, true), (22, false)] [] [] ⟨[(2, kB (decide ((0 : Int) ≤ r27)))], [], []⟩ (aP g1 (aP g2 (aP g3 (aP g9 (aP g10 (aP g11 aN)))))) ?_
      refine Vc [] [] (pprintable_R (decide ((0 : Int) ≤ r27))) (W_ret ?_)
      exact ⟨.inl rfl, by cases h; rfl⟩
    ·replace h := bif_f h g9
     obtain ⟨r27, g12, h⟩ := bind_some' h
     refine Vg hT (fT 24 (sIndexByte_ok n r27) fN) [(2, true), (6, false), (9, false), (17, false)] [] [] ⟨[(2, kB (decide ((0 : Int) ≤ r27)))], [], []⟩ (aP g1 (aP g2 (aP g3 (aP g9 (aP g12 aN))))) ?_
     refine Vc [] [] (pprintable_R (decide ((0 : Int) ≤ r27))) (W_ret ?_)
     exact ⟨.inl rfl, by cases h; rfl⟩
 ·replace h := bif_f h g1
  rcases Bool.eq_false_or_eq_true (decide ((65 : UInt8) ≤ l0)) with g13 | g13
  ·replace h := bif_t h g13
   rcases Bool.eq_false_or_eq_true (decide (l0 ≤ (90 : UInt8))) with g14 | g14
   ·replace h := bif_t h g14
    refine Vg hT fN [(2, false), (9, true), (14, true)] [] [] ⟨[(2, kB true)], [], []⟩ (aP g1 (aP g13 (aP g14 aN))) ?_
    refine Vc [] [] (pprintable_R true) (W_ret ?_)
    exact ⟨.inl rfl, by cases h; rfl⟩
   ·replace h := bif_f h g14
    rcases Bool.eq_false_or_eq_true (decide ((48 : UInt8) ≤ l0)) with g15 | g15
    ·replace h := bif_t h g15
     rcases Bool.eq_false_or_eq_true (decide (l0 ≤ (57 : UInt8))) with g16 | g16
     ·replace h := bif_t h g16
      refine Vg hT fN [(2, false), (9, true), (14, false), (17, true), (22, true)] [] [] ⟨[(2, kB true)], [], []⟩ (aP g1 (aP g13 (aP g14 (aP g15 (aP g16 aN))))) ?_
      refine Vc [] [] (pprintable_R true) (W_ret ?_)
      exact ⟨.inl rfl, by cases h; rfl⟩
     ·replace h := bif_f h g16
      obtain ⟨r27, g17, h⟩ := bind_some' h
      refine Vg hT (fT 24 (sIndexByte_ok n r27) fN) [(2, false), (9, true), (14, false), (17, true), (22, false)] [] [] ⟨[(2, kB (decide ((0 : Int) ≤ r27)))], [], []⟩ (aP g1 (aP g13 (aP g14 (aP g15 (aP g16 (aP g17 aN)))))) ?_
      refine Vc [] [] (pprintable_R (decide ((0 : Int) ≤ r27))) (W_ret ?_)
      exact ⟨.inl rfl, by cases h; rfl⟩
    ·replace h := bif_f h g15
     obtain ⟨r27, g18, h⟩ := bind_some' h
     refine Vg hT (fT 24 (sIndexByte_ok n r27) fN) [(2, false), (9, true), (14, false), (17, false)] [] [] ⟨[(2, kB (decide ((0 : Int) ≤ r27)))], [], []⟩ (aP g1 (aP g13 (aP g14 (aP g15 (aP g18 aN))))) ?_
     refine Vc [] [] (pprintable_R (decide ((0 : Int) ≤ r27))) (W_ret ?_)
     exact ⟨.inl rfl, by cases h; rfl⟩
  ·replace h := bif_f h g13
   rcases Bool.eq_false_or_eq_true (decide ((48 : UInt8) ≤ l0)) with g19 | g19
   ·replace h := bif_t h g19
    rcases Bool.eq_false_or_eq_true (decide (l0 ≤ (57 : UInt8))) with g20 | g20
    ·replace h := bif_t h g20
     refine Vg hT fN [(2, false), (9, false), (17, true), (22, true)] [] [] ⟨[(2, kB true)], [], []⟩ (aP g1 (aP g13 (aP g19 (aP g20 aN)))) ?_
     refine Vc [] [] (pprintable_R true) (W_ret ?_)
     exact ⟨.inl rfl, by cases h; rfl⟩
    ·replace h := bif_f h g20
     obtain ⟨r27, g21, h⟩ := bind_some' h
     refine Vg hT (fT 24 (sIndexByte_ok n r27) fN) [(2, false), (9, false), (17, true), (22, false)] [] [] ⟨[(2, kB (decide ((0 : Int) ≤ r27)))], [], []⟩ (aP g1 (aP g13 (aP g19 (aP g20 (aP g21 aN))))) ?_
     refine Vc [] [] (pprintable_R (decide ((0 : Int) ≤ r27))) (W_ret ?_)
     exact ⟨.inl rfl, by cases h; rfl⟩
   ·replace h := bif_f h g19
    obtain ⟨r27, g22, h⟩ := bind_some' h
    refine Vg hT (fT 24 (sIndexByte_ok n r27) fN) [(2, false), (9, false), (17, false)] [] [] ⟨[(2, kB (decide ((0 : Int) ≤ r27)))], [], []⟩ (aP g1 (aP g13 (aP g19 (aP g22 aN)))) ?_
    refine Vc [] [] (pprintable_R (decide ((0 : Int) ≤ r27))) (W_ret ?_)
    exact ⟨.inl rfl, by cases h; rfl⟩
def pT1_R (r : Bool) : S := ⟨[(2, kB r)], [], []⟩
def pT1_ct (n : Nat) (r : Bool) : Ct := ctc rU8.rd fun _ l0 => ct0 fun H => ([pT1 n l0 = some r], shA H.length (kB r), shH H.length [])
theorem pT1_ok (n : Nat) (r : Bool) : FnOk Try.prog Tr 67 (pT1_ct n r) := by
 refine fnok Try.func67 ?_
 refine HO_c rU8 fun l0 _ => HO_0 tabO_ta (pT1_R r) [.tmp 2] [] 6 Try.func67 fun w hG h => ?_
 unfold pT1 at h
 have hT := tabO_ta
 refine Vrs hT [] ⟨[(0, kU l0)], [], []⟩ ?_
 obtain ⟨r4, g1, h⟩ := bind_some' h
 refine Vgs hT (fT 1 (pprintable_ok n r4) fN) [] [] [] ⟨[(2, kB (!r4))], [], []⟩ (aP g1 aN) ?_
 refine Vc [] [] (pT1_R (!r4)) (W_ret ?_)
 exact ⟨.inl rfl, by cases h; rfl⟩
def pT2_R (r : Bool) : S := ⟨[(2, kB r)], [], []⟩
def pT2_ct (n : Nat) (r : Bool) : Ct := ctc rU8.rd fun _ l0 => ct0 fun H => ([pT2 n l0 = some r], shA H.length (kB r), shH H.length [])
theorem pT2_ok (n : Nat) (r : Bool) : FnOk Try.prog Tr 69 (pT2_ct n r) := by
 refine fnok Try.func69 ?_
 refine HO_c rU8 fun l0 _ => HO_0 tabO_ta (pT2_R r) [.tmp 2] [] 5 Try.func69 fun w hG h => ?_
 unfold pT2 at h
 have hT := tabO_ta
 refine Vrs hT [] ⟨[(0, kU l0)], [], []⟩ ?_
 refine Vrs hT [] ⟨[(2, kB (decide ((128 : UInt8) ≤ l0)))], [], []⟩ ?_
 refine Vc [] [] (pT2_R (decide ((128 : UInt8) ≤ l0))) (W_ret ?_)
 exact ⟨.inl rfl, by cases h; rfl⟩
def sHasPre0_R (r : Bool) : S := ⟨[(4, kB r)], [], []⟩
def sHasPre0_ct (n : Nat) (r : Bool) : Ct := ctc rS.rd fun _ l0 => ctc rS.rd fun _ l1 => ct0 fun H => ([sHasPre0 n l0 l1 = some r], shA H.length (kB r), shH H.length [])
theorem sHasPre0_ok (n : Nat) (r : Bool) : FnOk Try.prog Tr 86 (sHasPre0_ct n r) := by
 refine fnok Try.func86 ?_
 refine HO_c rS fun l0 _ => HO_c rS fun l1 _ => HO_0 tabO_ta (sHasPre0_R r) [.tmp 4] [] 18 Try.func86 fun w hG h => ?_
 unfold sHasPre0 at h
 have hT := tabO_ta
 refine Vrs hT [] ⟨[(0, kT l0), (1, kT l1)], [], []⟩ ?_
 refine W_seq ?_
 rcases Bool.eq_false_or_eq_true (decide (((l1.length : Nat) : Int) ≤ ((l0.length : Nat) : Int))) with g1 | g1
 ·replace h := bif_t h g1
  obtain ⟨g2, g3, h⟩ := gd2 h
  refine Vg hT fN [(5, true)] [] [] ⟨[(4, kB ((l0.take (((l1.length : Nat) : Int).toNat)) == l1))], [], []⟩ (aP g1 (aP g2 (aP g3 aN))) ?_
  refine Vc [] [] (sHasPre0_R ((l0.take (((l1.length : Nat) : Int).toNat)) == l1)) (W_ret ?_)
  exact ⟨.inl rfl, by cases h; rfl⟩
 ·replace h := bif_f h g1
  refine Vg hT fN [(5, false)] [] [] ⟨[(4, kB false)], [], []⟩ (aP g1 aN) ?_
  refine Vc [] [] (sHasPre0_R false) (W_ret ?_)
  exact ⟨.inl rfl, by cases h; rfl⟩
def sHasPre_R (r : Bool) : S := ⟨[(4, kB r)], [], []⟩
def sHasPre_ct (n : Nat) (r : Bool) : Ct := ctc rS.rd fun _ l0 => ctc rS.rd fun _ l1 => ct0 fun H => ([sHasPre n l0 l1 = some r], shA H.length (kB r), shH H.length [])
theorem sHasPre_ok (n : Nat) (r : Bool) : FnOk Try.prog Tr 81 (sHasPre_ct n r) := by
 refine fnok Try.func81 ?_
 refine HO_c rS fun l0 _ => HO_c rS fun l1 _ => HO_0 tabO_ta (sHasPre_R r) [.tmp 4] [] 8 Try.func81 fun w hG h => ?_
 unfold sHasPre at h
 have hT := tabO_ta
 refine Vrs hT [] ⟨[(0, kT l0), (1, kT l1)], [], []⟩ ?_
 obtain ⟨r7, g1, h⟩ := bind_some' h
 refine Vgs hT (fT 2 (sHasPre0_ok n r7) fN) [] [] [] ⟨[(4, kB r7)], [], []⟩ (aP g1 aN) ?_
 refine Vc [] [] (sHasPre_R r7) (W_ret ?_)
 exact ⟨.inl rfl, by cases h; rfl⟩
end Go.Proofs.Ytobfglafchoipaa
end
section
namespace Go.Proofs.Ytobfglafchoipaa
open Go.RowKit Go.Ch Go.Sx Go.Lib Go.Proofs
def prB (x : UInt8) : Bool := decide (97 ≤ x) && decide (x ≤ 122) || decide (65 ≤ x) && decide (x ≤ 90) || decide (48 ≤ x) && decide (x ≤ 57) || [32, 39, 40, 41, 43, 44, 45, 46, 47, 58, 61, 63].contains x
def prtN (x : UInt8) : Bool := !prB x
def hiB (x : UInt8) : Bool := decide (128 ≤ x)
theorem pT1_all : ∀ i : Fin 256, pT1 0 (UInt8.ofNat i.1) = some (prtN (UInt8.ofNat i.1)) := by decide +kernel
theorem pT1_is (x : UInt8) : pT1 0 x = some (prtN x) := by
 have := pT1_all ⟨x.toNat, x.toNat_lt⟩
 simpa using this
def Tells (g : Nat) (p : UInt8 → Bool) : Prop := ∀ (x : UInt8) (w : World), Calls Try.prog g #[bU x] w (Ret fun v w' => Ext w w' ∧ v = .bool (p x))
theorem tells1 : Tells 67 prtN := fun x w =>
 calls_mono ((pT1_ok 0 (prtN x)).ct [.c (.s (.u8 x))] [] _ _ _ rfl (allP_cons.2 ⟨pT1_is x, allP_nil⟩) (plL []) w [bU x] True.intro (fun i o h => by simp at h) (F2.cons rfl F2.nil)) fun v w' ⟨hx, _, hL⟩ => ⟨hx, hL.val⟩
theorem tells2 : Tells 69 hiB := fun x w =>
 calls_mono ((pT2_ok 0 (hiB x)).ct [.c (.s (.u8 x))] [] _ _ _ rfl (allP_cons.2 ⟨rfl, allP_nil⟩) (plL []) w [bU x] True.intro (fun i o h => by simp at h) (F2.cons rfl F2.nil)) fun v w' ⟨hx, _, hL⟩ => ⟨hx, hL.val⟩
theorem enters1 : ∀ args w, (callFunc 67 args).run Try.prog w = .ok (.enter 67 args) w := enters_of Try.func67 (by kernel_rfl) rfl
theorem enters2 : ∀ args w, (callFunc 69 args).run Try.prog w = .ok (.enter 69 args) w := enters_of Try.func69 (by kernel_rfl) rfl
set_option maxHeartbeats 2000000 in
theorem idxf_c (g : Nat) (p : UInt8 → Bool) (eg : ∀ args w, (callFunc g args).run Try.prog w = .ok (.enter g args) w) (hp : Tells g p) (w : World) (ad : Addr) (c n : Nat) (zs : List UInt8) (hz : n ≤ zs.length) (hbig : n ≤ 9223372036854775807)
  (hc : ∀ j, j < zs.length → w.cell? (ad.add j) = some (bU zs[j]!)) :
  Calls Try.prog 82 #[.slice (some ad) n c, .func (.func g) #[] #[]] w fun e w' => ∃ r : Int, e = .returned (.int .i64 r) ∧ Ext w w' ∧ decide (0 ≤ r) = (zs.take n).any p := by
 go_enter Try.func82, Try.ntmps82
 go_wp2
 go_loopg [5, 8] n (fun gg _ s8 wr => ∃ kk : Nat, kk ≤ n ∧ n - kk ≤ gg ∧ s8 = .int .i64 kk ∧ Ext w wr ∧ Aside (∀ j, j < kk → p zs[j]! = false))
 case atStart => exact ⟨0, Nat.zero_le _, by omega, rfl, Below.refl _ _, fun j hj => absurd hj (Nat.not_lt_zero _)⟩
 case round =>
  obtain ⟨kk, hkk, hg, rfl, hx, A⟩ := hrel
  by_cases hlt : kk < n
  ·have hltz : (kk : Int) < (n : Int) := by omega
   have hcell : wr.cell? (ad.add kk) = some (bU zs[kk]!) := by
    have h1 := hc kk (by omega)
    have h2 := World.block_lt_of_cell? _ _ h1
    rw [World.cell?_of_block (hx.block _ h2)]; exact h1
   clear hc
   generalize hy : zs[kk]! = y at hcell
   have B : Aside (zs[kk]! = y) := hy
   clear hy
   have hcall : Calls Try.prog g #[bU y] wr (Ret fun v w' => Ext wr w' ∧ v = .bool (p y)) := hp y wr
   unfold bU at hcell hcall
   cases hq : p y with
   | true =>
    rw [hq] at hcall
    go_wp2_with (go_at_fn g; refine hcall.mono ?_; rintro e w' ⟨v, rfl, hx2, rfl⟩)
    go_ret
    refine ⟨(kk : Int), rfl, hx.tr hx2, ?_⟩
    rw [decide_eq_true (by omega)]
    symm
    rw [List.any_eq_true]
    refine ⟨y, ?_, hq⟩
    rw [← B.out, List.mem_take_iff_getElem]
    exact ⟨kk, by omega, by rw [getElem!_pos zs kk (by omega)]⟩
   | false =>
    rw [hq] at hcall
    go_wp2_with (go_at_fn g; refine hcall.mono ?_; rintro e w' ⟨v, rfl, hx2, rfl⟩)
    go_roundg (n - (kk + 1))
    case measure => omega
    case rel =>
     refine ⟨kk + 1, by omega, by omega, by go_num, hx.tr hx2, (show Aside _ from fun j hj => ?_)⟩
     by_cases e : j = kk
     ·subst e
      rw [B.out]; exact hq
     ·exact A.out j (by omega)
  ·have hltz : ¬ (kk : Int) < (n : Int) := by omega
   have he : kk = n := by omega
   subst he
   go_wp2
   go_ret
   refine ⟨-1, rfl, hx, ?_⟩
   rw [decide_eq_false (by omega)]
   symm
   rw [Bool.eq_false_iff]
   intro h
   rw [List.any_eq_true] at h
   obtain ⟨x, hx, hpx⟩ := h
   obtain ⟨j, hj, rfl⟩ := List.mem_take_iff_getElem.1 hx
   have := A.out j (by omega)
   rw [getElem!_pos zs j (by omega)] at this
   rw [this] at hpx
   cases hpx
set_option maxHeartbeats 2000000 in
theorem idxf_nil (g : Nat) (w : World) (c : Nat) :
  Calls Try.prog 82 #[.slice none 0 c, .func (.func g) #[] #[]] w fun e w' => ∃ r : Int, e = .returned (.int .i64 r) ∧ Ext w w' ∧ decide (0 ≤ r) = false := by
 go_enter Try.func82, Try.ntmps82
 go_wp2
 go_loopg [5, 8] 0 (fun gg _ s8 wr => s8 = .int .i64 0 ∧ Ext w wr)
 case atStart => exact ⟨rfl, Below.refl _ _⟩
 case round =>
  obtain ⟨rfl, hx⟩ := hrel
  go_wp2
  go_ret
  exact ⟨-1, rfl, hx, by decide⟩
set_option maxHeartbeats 2000000 in
theorem idxf_zero (g : Nat) (w : World) (ad : Addr) (c : Nat) :
  Calls Try.prog 82 #[.slice (some ad) 0 c, .func (.func g) #[] #[]] w fun e w' => ∃ r : Int, e = .returned (.int .i64 r) ∧ Ext w w' ∧ decide (0 ≤ r) = false := by
 go_enter Try.func82, Try.ntmps82
 go_wp2
 go_loopg [5, 8] 0 (fun gg _ s8 wr => s8 = .int .i64 0 ∧ Ext w wr)
 case atStart => exact ⟨rfl, Below.refl _ _⟩
 case round =>
  obtain ⟨rfl, hx⟩ := hrel
  go_wp2
  go_ret
  exact ⟨-1, rfl, hx, by decide⟩
set_option maxHeartbeats 2000000 in
theorem cont_c (g : Nat) (p : UInt8 → Bool) (eg : ∀ args w, (callFunc g args).run Try.prog w = .ok (.enter g args) w) (hp : Tells g p) (w : World) (B : Nat) (v : Value) (l : List UInt8) (hv : Sl w B v (l.map bU)) :
  Calls Try.prog 66 #[v, .func (.func g) #[] #[]] w (Ret fun v w' => Ext w w' ∧ v = .bool (l.any p)) := by
 have ei : ∀ args w, (callFunc 82 args).run Try.prog w = .ok (.enter 82 args) w := enters_of Try.func82 (by kernel_rfl) rfl
 have key : Calls Try.prog 82 #[v, .func (.func g) #[] #[]] w fun e w' => ∃ r : Int, e = .returned (.int .i64 r) ∧ Ext w w' ∧ decide (0 ≤ r) = l.any p := by
  obtain ⟨hB, A, c, rfl, h1, h2, h3, hc⟩ := hv
  rw [List.length_map] at h1 ⊢
  cases A with
  | none =>
   have hc0 := h3 rfl
   have hl : l = [] := List.eq_nil_of_length_eq_zero (by omega)
   subst hl; subst hc0
   exact idxf_nil g w 0
  | some ad =>
   have hsub : ∀ j, j < l.length → w.cell? (ad.add j) = some (bU l[j]!) := fun j hj => (hc ad rfl j (bU l[j]!) (by rw [List.getElem?_map, List.getElem?_eq_getElem hj, getElem!_pos l j hj]; rfl)).2
   rcases Nat.eq_zero_or_pos l.length with h0 | h0
   ·obtain rfl := List.eq_nil_of_length_eq_zero h0
    exact idxf_zero g w ad c
   ·exact (idxf_c g p eg hp w ad c l.length l (Nat.le_refl _) (by unfold maxLen at h2; omega) hsub).mono fun e w' ⟨r, h1, h2, h3⟩ => ⟨r, h1, h2, by rw [h3, List.take_length]⟩
 obtain ⟨V, hV⟩ : ∃ V, V = v := ⟨_, rfl⟩
 rw [← hV] at key ⊢
 clear hv hV
 generalize l.any p = R at key
 go_enter Try.func66, Try.ntmps66
 go_wp2_with (go_at_fn 82; refine key.mono ?_; rintro e w' ⟨r, rfl, hx, hr⟩)
 go_ret
 refine ⟨_, rfl, hx, ?_⟩
 rw [← hr]; rfl
def aFn : AV → Option (UInt8 → Bool)
 | .c (.s (.v (.func (.func g) a b))) => (match a.toList, b.toList, Nat.beq g 67, Nat.beq g 69 with
  | [], [], true, _ => some prtN
  | [], [], _, true => some hiB
  | _, _, _, _ => none)
 | _ => none
theorem aFn_ok {ρ : Pls} {x : AV} {p : UInt8 → Bool} (h : aFn x = some p) {v : Value} (hv : avR ρ x v) : ∃ g, v = .func (.func g) #[] #[] ∧ Tells g p ∧ ∀ args w, (callFunc g args).run Try.prog w = .ok (.enter g args) w := by
 unfold aFn at h
 split at h
 ·rename_i g a b
  have hv' : v = .func (.func g) a b := hv
  split at h
  ·rename_i h1 h2 h3
   injection h with h; subst h
   obtain rfl := Nat.eq_of_beq_eq_true h3
   exact ⟨_, by rw [hv', Array.ext' (xs := a) (ys := #[]) h1, Array.ext' (xs := b) (ys := #[]) h2], tells1, enters1⟩
  ·rename_i h1 h2 h3 _
   injection h with h; subst h
   obtain rfl := Nat.eq_of_beq_eq_true h3
   exact ⟨_, by rw [hv', Array.ext' (xs := a) (ys := #[]) h1, Array.ext' (xs := b) (ys := #[]) h2], tells2, enters2⟩
  ·cases h
 ·cases h
def cf_ct : Ct := ctc aB fun _ l => ctc (fun _ => aFn) fun _ p => ct0 fun _ => ([], kB (l.any p), [])
theorem cf_h : FnOk Try.prog Tr 66 cf_ct := by
 refine ⟨fun args H g av objs hF hg ρ w vals hG hp ha => ?_, _, Try.func66, by kernel_rfl, by kernel_rfl⟩
 obtain ⟨x0, _, l0, rfl, e0, hF⟩ := ctc_inv hF
 obtain ⟨x1, _, l1, rfl, e1, hF⟩ := ctc_inv hF
 obtain ⟨rfl, rfl, rfl, rfl⟩ := ct0_inv hF
 obtain ⟨v0, vals, rfl, k0, ha⟩ := F2.inv ha
 obtain ⟨v1, vals, rfl, k1, ha⟩ := F2.inv ha
 obtain rfl := F2.inv0 ha
 obtain ⟨q, hI⟩ := aB_ok hp e0 k0 5
 have hs := hI.sl (fun _ _ h => csR_b.1 h) (by simp)
 obtain ⟨g', rfl, h1, h2⟩ := aFn_ok e1 k1
 exact calls_mono (cont_c g' l1 h2 h1 w _ v0 l0 hs) fun v w' ⟨hx, hv⟩ => ⟨hx, left_val fun ρ => hv⟩
def preF (a : List UInt8) : Bool := a.take 3 == [239, 191, 189]
theorem sHasPre_is (a : List UInt8) : sHasPre 0 a [239, 191, 189] = some (preF a) := by
 unfold sHasPre sHasPre0 preF
 by_cases h : 3 ≤ a.length
 ·have h3 : (([239, 191, 189] : List UInt8).length : Int) = 3 := rfl
  rw [ite_t (decide_eq_true (by rw [h3]; omega)), gd_pos (by rw [h3]; omega), gd_pos (by rw [h3]; omega)]; rfl
 ·have h3 : (([239, 191, 189] : List UInt8).length : Int) = 3 := rfl
  rw [ite_f (decide_eq_false (by rw [h3]; omega)), Option.bind_some]
  congr 1
  symm
  rw [beq_eq_false_iff_ne]
  intro e
  have := congrArg List.length e
  rw [List.length_take] at this
  simp at this; omega
theorem hp_c (w : World) (a : ByteArray) : Calls Try.prog 81 #[.string a, .string ⟨#[239, 191, 189]⟩] w (Ret fun v w' => Ext w w' ∧ v = .bool (preF a.data.toList)) :=
 calls_mono ((sHasPre_ok 0 (preF a.data.toList)).ct [.c (.s (.str a.data.toList)), .c (.s (.str [239, 191, 189]))] [] _ _ _ rfl (allP_cons.2 ⟨sHasPre_is _, allP_nil⟩) (plL []) w [.string a, .string ⟨#[239, 191, 189]⟩] True.intro (fun i o h => by simp at h) (F2.cons rfl (F2.cons rfl F2.nil))) fun v w' ⟨hx, _, hL⟩ => ⟨hx, hL.val⟩
def ptsFrom (s : ByteArray) : Nat → Nat → Bool
 | 0, _ => true
 | f + 1, pos => if pos < s.size then (if (Utf8.decode s pos).1 = 65533 ∧ preF (s.extract pos s.size).data.toList = false then false else ptsFrom s f (pos + (Utf8.decode s pos).2)) else true
def ptsF (l : List UInt8) : Bool := ptsFrom ⟨l.toArray⟩ (l.length + 1) 0
set_option maxHeartbeats 2000000 in
set_option maxRecDepth 1000000 in
theorem pts_c (w : World) (s : ByteArray) : Calls Try.prog 65 #[.string s] w fun e w' => ∃ r, e = .returned (.bool r) ∧ Ext w w' ∧ r = ptsFrom s (s.size + 1) 0 := by
 obtain ⟨Z, hZ⟩ : ∃ Z, ptsFrom s (s.size + 1) 0 = Z := ⟨_, rfl⟩
 rw [hZ]
 go_enter Try.func65, Try.ntmps65
 go_wp2
 go_loopg [] (s.size + 1) (fun gf wx => ∃ pos : Nat, wx.heap[w.heap.size]? = some (.stringIter s pos) ∧ Below w.heap.size w wx ∧ ptsFrom s gf pos = Z ∧ s.size < pos + gf)
 case atStart => exact ⟨0, World.iter_heap w s 0, (Below.refl _ w).alloc (Nat.le_refl _) _, hZ, by omega⟩
 case round =>
  clear hZ
  obtain ⟨pos, hit, hbw, hleft, hfu⟩ := hrel
  by_cases hps : pos < s.size
  ·obtain ⟨g', rfl⟩ : ∃ g', gk = g' + 1 := ⟨gk - 1, by omega⟩
   have hnx : ∀ ty, (Instr.next (.pointer (some ⟨w.heap.size, 0, none⟩)) true ty).run Try.prog wr = _ := fun ty => Lib.run_next_any_at wr w.heap.size s pos ty hit hps
   have hwd := Lib.width_pos s pos
   obtain ⟨R, hR⟩ : ∃ R, (Utf8.decode s pos).1 = R := ⟨_, rfl⟩
   obtain ⟨K, hK⟩ : ∃ K, (Utf8.decode s pos).2 = K := ⟨_, rfl⟩
   rw [ptsFrom, if_pos hps, hR, hK] at hleft
   rw [hR, hK] at hnx
   rw [hK] at hwd
   have hit2 := Lib.iterAt_heap wr w.heap.size s pos (pos + K) hit
   have hbw2 := Lib.below_iterAt hbw (k := w.heap.size) (Nat.le_refl _) s (pos + K)
   obtain ⟨W, hWd⟩ : ∃ W, wr.iterAt w.heap.size s (pos + K) = W := ⟨_, rfl⟩
   rw [hWd] at hnx hit2 hbw2
   by_cases h65 : R = 65533
   ·have h65i : ((R : Nat) : Int) = 65533 := by omega
    rw [h65i] at hnx
    have cS := hp_c W (s.extract pos s.size)
    obtain ⟨q, hq⟩ : ∃ q, preF (s.extract pos s.size).data.toList = q := ⟨_, rfl⟩
    rw [hq] at cS hleft
    clear hR hK hWd hit hbw
    have hx : Ext w W := hbw2
    cases q with
    | false =>
     rw [if_pos ⟨h65, rfl⟩] at hleft
     have HL := Lib.hid hleft
     clear hleft
     go_wp2_with (go_at_fn 81; fail)
     with_reducible refine Calls.mono cS ?_
     intro e w' hh
     obtain ⟨v, he, hx2, hv⟩ := hh
     subst he
     subst hv
     go_wp2
     go_ret
     exact ⟨false, rfl, hx.tr hx2, HL.out⟩
    | true =>
     rw [if_neg (by simp)] at hleft
     have HL := Lib.hid hleft
     clear hleft
     go_wp2_with (go_at_fn 81; fail)
     with_reducible refine Calls.mono cS ?_
     intro e w' hh
     obtain ⟨v, he, hx2, hv⟩ := hh
     subst he
     subst hv
     go_wp2
     go_roundg g'
     case measure => omega
     case rel => exact ⟨pos + K, (hx2.block _ (Array.getElem?_eq_some_iff.1 hit2).1).trans hit2, hx.tr hx2, HL.out, by omega⟩
   ·have h65i : ¬ ((R : Nat) : Int) = 65533 := by omega
    have hx : Ext w W := hbw2
    rw [if_neg (fun h => h65 h.1)] at hleft
    have HL := Lib.hid hleft
    clear hleft hR hK hWd hit hbw
    generalize ((R : Nat) : Int) = Ri at *
    go_wp2
    go_roundg g'
    case measure => omega
    case rel => exact ⟨pos + K, hit2, hx, HL.out, by omega⟩
  ·have hnx : ∀ ty, (Instr.next (.pointer (some ⟨w.heap.size, 0, none⟩)) true ty).run Try.prog wr = _ := fun ty => Lib.run_next_end_at wr w.heap.size s pos ty hit hps
   have hz : true = Z := by
    rw [← hleft]
    cases gk with
    | zero => rfl
    | succ g => rw [ptsFrom, if_neg hps]
   have HL := Lib.hid hz
   clear hleft hz
   go_wp2
   go_ret
   exact ⟨true, rfl, hbw, HL.out⟩
def pts_ct : Ct := ctc rS.rd fun _ l0 => ct0 fun _ => ([l0.length ≤ 1000000], kB (ptsF l0), [])
theorem pts_h : FnOk Try.prog Tr 65 pts_ct := by
 refine ⟨fun args H g av objs hF hg ρ w vals hG hp ha => ?_, _, Try.func65, by kernel_rfl, by kernel_rfl⟩
 obtain ⟨x0, _, l0, rfl, e0, hF⟩ := ctc_inv hF
 obtain ⟨rfl, rfl, rfl, rfl⟩ := ct0_inv hF
 obtain ⟨v0, vals, rfl, k0, ha⟩ := F2.inv ha
 obtain rfl := F2.inv0 ha
 obtain rfl := aS_ok e0 k0
 refine (pts_c w ⟨l0.toArray⟩).mono fun e w' ⟨r, he, hx, hr⟩ => ⟨_, he, hx, left_val fun ρ => ?_⟩
 rw [hr]; rfl
end Go.Proofs.Ytobfglafchoipaa
end
section
namespace Go.Proofs.Ytobfglafchoipaa
open Go.RowKit Go.Ch Go.Sx
def tabL_oa : List (TypeId × Ti) := [(3, ⟨.int .i64, 1, 8, true, some [.int .i64]⟩),
 (5, ⟨.int .u8, 1, 1, true, some [.int .u8]⟩),
 (9, ⟨.str, 1, 16, true, some [.str]⟩),
 (22, ⟨.sl 5, 1, 24, false, some [.nils]⟩),
 (38, ⟨.int .i64, 1, 8, true, some [.int .i64]⟩),
 (44, ⟨.sl 92, 1, 24, false, some [.nils]⟩),
 (92, ⟨.int .u32, 1, 4, true, some [.int .u32]⟩),
 (108, ⟨.int .u64, 1, 8, true, some [.int .u64]⟩)]
def tab_oa : Tab := fun t => (tabL_oa).lookup t
theorem tabE_oa : (tabL_oa.map fun p => tiOf Try.prog p.1) = tabL_oa.map fun p => some p.2 := by kernel_rfl
theorem tabO_oa : TabOk Try.prog tab_oa := tab_of tabE_oa
def pident (n : Nat) (a0 : List UInt32) : Option (Bool) :=
 bif (decide (((a0.length : Nat) : Int) < (2 : Int))) then
 some false
 else
 bif (decide ((16 : Int) < ((a0.length : Nat) : Int))) then
 some false
 else
 gd (0 ≤ (0 : Int)) <|
 gd ((0 : Int) < ((a0.length : Nat) : Int)) <|
 bif (decide ((2 : UInt32) < (a0.getD 0 0))) then
 some false
 else
 gd (0 ≤ (0 : Int)) <|
 gd ((0 : Int) < ((a0.length : Nat) : Int)) <|
 bif (decide ((a0.getD 0 0) < (2 : UInt32))) then
 gd (0 ≤ (1 : Int)) <|
 gd ((1 : Int) < ((a0.length : Nat) : Int)) <|
 some (decide ((a0.getD 1 0) < (40 : UInt32)))
 else
 gd (0 ≤ (1 : Int)) <|
 gd ((1 : Int) < ((a0.length : Nat) : Int)) <|
 some (decide ((((a0.getD 1 0).toUInt64) + (80 : UInt64)) < (4294967296 : UInt64)))
def pOid_l1 (n : Nat) (a0 : List UInt32) : Nat → List UInt8 → Int → Option (List UInt8 × Option Int)
 | 0, _, _ => none
 | fu_l1 + 1, l4_1, i23_1 =>
 bif (decide (i23_1 < (((a0.length - 2) : Nat) : Int))) then
 gd (0 ≤ i23_1) <|
 gd (i23_1 < (((a0.length - 2) : Nat) : Int)) <|
 gd (rmB (l4_1.length + ((grp (((a0.drop 2).take (a0.length - 2)).getD i23_1.toNat 0)).length)) 1) <|
 gd (okI .i64 (i23_1 + 1)) <|
 (pOid_l1 n a0 fu_l1) (l4_1 ++ (grp (((a0.drop 2).take (a0.length - 2)).getD i23_1.toNat 0))) (i23_1 + 1)
 else
 some (l4_1, none)
def pOid (n : Nat) (a0 : List UInt32) : Option (List UInt8 × Option Int) :=
 (pident n a0).bind fun r8 =>
 bif (!r8) then
  some ([], (some 1))
 else
  gd (0 ≤ (0 : Int)) <|
  gd ((0 : Int) < ((a0.length : Nat) : Int)) <|
  gd (0 ≤ (1 : Int)) <|
  gd ((1 : Int) < ((a0.length : Nat) : Int)) <|
  gd (0 ≤ (2 : Int)) <|
  gd ((2 : Int) ≤ ((a0.length : Nat) : Int)) <|
  pOid_l1 n a0 n (grp (((40 : UInt32) * (a0.getD 0 0)) + (a0.getD 1 0))) 0
def pText_j1 (n : Nat) (p5_2 : Bool) : Option (Option Int) :=
 bif (!p5_2) then
 some (some 2)
 else
 some none
def pText (n : Nat) (a0 : UInt8) (a1 : List UInt8) : Option (Option Int) :=
 bif (a0 == 12) then
 gd ((a1).length ≤ 1000000) <|
 pText_j1 n (ptsF a1)
 else
 bif (a0 == 19) then
 pText_j1 n (!((a1).any prtN))
 else
 bif (a0 == 22) then
 pText_j1 n (!((a1).any hiB))
 else
 some (some 1)
def rlater (n : Nat) (a0 : UInt8) : Option (Bool) :=
 bif (decide ((128 : UInt8) ≤ a0)) then
 some (decide (a0 < (192 : UInt8)))
 else
 some false
def rPoints_l2 (n : Nat) (a0 : List UInt8) (i3_2 : Int) (i5_8 : Int) (k_l1 : Int → Option (Bool)) : Nat → Int → Option (Bool)
 | 0, _ => none
 | fu_l2 + 1, i8_16 =>
  bif (decide (i8_16 ≤ i5_8)) then
   gd (okI .i64 (i3_2 + i8_16)) <|
   gd (0 ≤ (i3_2 + i8_16)) <|
   gd ((i3_2 + i8_16) < ((a0.length : Nat) : Int)) <|
   (rlater n (a0.getD ((i3_2 + i8_16).toNat) 0)).bind fun r90_20 =>
   bif (!r90_20) then
    some false
   else
    gd (okI .i64 (i8_16 + 1)) <|
    (rPoints_l2 n a0 i3_2 i5_8 k_l1 fu_l2) (i8_16 + 1)
  else
   gd (okI .i64 (i3_2 + 1)) <|
   gd (okI .i64 ((i3_2 + 1) + i5_8)) <|
   k_l1 ((i3_2 + 1) + i5_8)
def rPoints_l3 (n : Nat) (a0 : List UInt8) (i3_2 : Int) (i5_8 : Int) (k_l1 : Int → Option (Bool)) : Nat → Int → Option (Bool)
 | 0, _ => none
 | fu_l3 + 1, i8_17 =>
  bif (decide (i8_17 ≤ i5_8)) then
   gd (okI .i64 (i3_2 + i8_17)) <|
   gd (0 ≤ (i3_2 + i8_17)) <|
   gd ((i3_2 + i8_17) < ((a0.length : Nat) : Int)) <|
   (rlater n (a0.getD ((i3_2 + i8_17).toNat) 0)).bind fun r90_21 =>
   bif (!r90_21) then
    some false
   else
    gd (okI .i64 (i8_17 + 1)) <|
    (rPoints_l3 n a0 i3_2 i5_8 k_l1 fu_l3) (i8_17 + 1)
  else
   gd (okI .i64 (i3_2 + 1)) <|
   gd (okI .i64 ((i3_2 + 1) + i5_8)) <|
   k_l1 ((i3_2 + 1) + i5_8)
def rPoints_j5 (n : Nat) (a0 : List UInt8) (i3_2 : Int) (i5_8 : Int) (i6_17 : Int) (k_l1 : Int → Option (Bool)) (i7_17 : Int) : Option (Bool) :=
 gd (okI .i64 (i3_2 + i5_8)) <|
 bif (decide (((a0.length : Nat) : Int) ≤ (i3_2 + i5_8))) then
 some false
 else
 bif (decide ((0 : Int) < i5_8)) then
 gd (okI .i64 (i3_2 + 1)) <|
 gd (0 ≤ (i3_2 + 1)) <|
 gd ((i3_2 + 1) < ((a0.length : Nat) : Int)) <|
 bif (decide ((((a0.getD ((i3_2 + 1).toNat) 0).toNat : Nat) : Int) < i6_17)) then
 some false
 else
 gd (okI .i64 (i3_2 + 1)) <|
 gd (0 ≤ (i3_2 + 1)) <|
 gd ((i3_2 + 1) < ((a0.length : Nat) : Int)) <|
 bif (decide (i7_17 < (((a0.getD ((i3_2 + 1).toNat) 0).toNat : Nat) : Int))) then
 some false
 else
 rPoints_l2 n a0 i3_2 i5_8 k_l1 n 2
 else
 rPoints_l3 n a0 i3_2 i5_8 k_l1 n 2
def rPoints_j4 (n : Nat) (a0 : List UInt8) (i3_2 : Int) (i5_8 : Int) (i7_16 : Int) (k_l1 : Int → Option (Bool)) (i6_17 : Int) : Option (Bool) :=
 bif ((((a0.getD i3_2.toNat 0).toNat : Nat) : Int) == 244) then
 rPoints_j5 n a0 i3_2 i5_8 i6_17 k_l1 143
 else
 rPoints_j5 n a0 i3_2 i5_8 i6_17 k_l1 i7_16
def rPoints_j3 (n : Nat) (a0 : List UInt8) (i3_2 : Int) (i5_8 : Int) (i6_16 : Int) (k_l1 : Int → Option (Bool)) (i7_16 : Int) : Option (Bool) :=
 bif ((((a0.getD i3_2.toNat 0).toNat : Nat) : Int) == 240) then
 rPoints_j4 n a0 i3_2 i5_8 i7_16 k_l1 144
 else
 rPoints_j4 n a0 i3_2 i5_8 i7_16 k_l1 i6_16
def rPoints_j2 (n : Nat) (a0 : List UInt8) (i3_2 : Int) (i5_8 : Int) (k_l1 : Int → Option (Bool)) (i6_16 : Int) : Option (Bool) :=
 bif ((((a0.getD i3_2.toNat 0).toNat : Nat) : Int) == 237) then
 rPoints_j3 n a0 i3_2 i5_8 i6_16 k_l1 159
 else
 rPoints_j3 n a0 i3_2 i5_8 i6_16 k_l1 191
def rPoints_j1 (n : Nat) (a0 : List UInt8) (i3_2 : Int) (k_l1 : Int → Option (Bool)) (i5_8 : Int) : Option (Bool) :=
 bif ((((a0.getD i3_2.toNat 0).toNat : Nat) : Int) == 224) then
 rPoints_j2 n a0 i3_2 i5_8 k_l1 160
 else
 rPoints_j2 n a0 i3_2 i5_8 k_l1 128
def rPoints_l1 (n : Nat) (a0 : List UInt8) : Nat → Int → Option (Bool)
 | 0, _ => none
 | fu_l1 + 1, i3_2 =>
 bif (decide (i3_2 < ((a0.length : Nat) : Int))) then
 gd (0 ≤ i3_2) <|
 gd (i3_2 < ((a0.length : Nat) : Int)) <|
 bif (decide ((((a0.getD i3_2.toNat 0).toNat : Nat) : Int) < (128 : Int))) then
 rPoints_j1 n a0 i3_2 (rPoints_l1 n a0 fu_l1) 0
 else
 bif (decide ((194 : Int) ≤ (((a0.getD i3_2.toNat 0).toNat : Nat) : Int))) then
 bif (decide ((((a0.getD i3_2.toNat 0).toNat : Nat) : Int) ≤ (223 : Int))) then
 rPoints_j1 n a0 i3_2 (rPoints_l1 n a0 fu_l1) 1
 else
 bif (decide ((224 : Int) ≤ (((a0.getD i3_2.toNat 0).toNat : Nat) : Int))) then
 bif (decide ((((a0.getD i3_2.toNat 0).toNat : Nat) : Int) ≤ (239 : Int))) then
 rPoints_j1 n a0 i3_2 (rPoints_l1 n a0 fu_l1) 2
 else
 bif (decide ((240 : Int) ≤ (((a0.getD i3_2.toNat 0).toNat : Nat) : Int))) then
 bif (decide ((((a0.getD i3_2.toNat 0).toNat : Nat) : Int) ≤ (244 : Int))) then
 rPoints_j1 n a0 i3_2 (rPoints_l1 n a0 fu_l1) 3
 else
 some false
 else
 some false
 else
 bif (decide ((240 : Int) ≤ (((a0.getD i3_2.toNat 0).toNat : Nat) : Int))) then
 bif (decide ((((a0.getD i3_2.toNat 0).toNat : Nat) : Int) ≤ (244 : Int))) then
 rPoints_j1 n a0 i3_2 (rPoints_l1 n a0 fu_l1) 3
 else
 some false
 else
 some false
 else
 bif (decide ((224 : Int) ≤ (((a0.getD i3_2.toNat 0).toNat : Nat) : Int))) then
 bif (decide ((((a0.getD i3_2.toNat 0).toNat : Nat) : Int) ≤ (239 : Int))) then
 rPoints_j1 n a0 i3_2 (rPoints_l1 n a0 fu_l1) 2
 else
 bif (decide ((240 : Int) ≤ (((a0.getD i3_2.toNat 0).toNat : Nat) : Int))) then
 bif (decide ((((a0.getD i3_2.toNat 0).toNat : Nat) : Int) ≤ (244 : Int))) then
 rPoints_j1 n a0 i3_2 (rPoints_l1 n a0 fu_l1) 3
 else
 some false
 else
 some false
 else
 bif (decide ((240 : Int) ≤ (((a0.getD i3_2.toNat 0).toNat : Nat) : Int))) then
 bif (decide ((((a0.getD i3_2.toNat 0).toNat : Nat) : Int) ≤ (244 : Int))) then
 rPoints_j1 n a0 i3_2 (rPoints_l1 n a0 fu_l1) 3
 else
 some false
 else
 some false
 else
 some true
def rPoints (n : Nat) (a0 : List UInt8) : Option (Bool) :=
 rPoints_l1 n a0 n 0
def rText_j1 (n : Nat) (a0 : UInt8) (a1 : List UInt8) (i5_2 : Int) (k_l1 : Int → Option (Bool)) : Option (Bool) :=
 gd (okI .i64 (i5_2 + 1)) <|
 k_l1 (i5_2 + 1)
def rText_l2 (n : Nat) (a0 : UInt8) (a1 : List UInt8) (i5_2 : Int) (k_l1 : Int → Option (Bool)) : Nat → Int → Option (Bool)
 | 0, _ => none
 | fu_l2 + 1, i9_187 =>
 bif (decide (i9_187 < (([32, 39, 40, 41, 43, 44, 45, 46, 47, 58, 61, 63].length : Nat) : Int))) then
 gd (okI .i64 (i9_187 + 1)) <|
 (rText_l2 n a0 a1 i5_2 k_l1 fu_l2) (i9_187 + 1)
 else
 rText_j1 n a0 a1 i5_2 k_l1
def rText_l3 (n : Nat) (a0 : UInt8) (a1 : List UInt8) (i5_2 : Int) (k_l1 : Int → Option (Bool)) : Nat → Int → Option (Bool)
 | 0, _ => none
 | fu_l3 + 1, i9_188 =>
 bif (decide (i9_188 < (([32, 39, 40, 41, 43, 44, 45, 46, 47, 58, 61, 63].length : Nat) : Int))) then
 gd (okI .i64 (i9_188 + 1)) <|
 (rText_l3 n a0 a1 i5_2 k_l1 fu_l3) (i9_188 + 1)
 else
 rText_j1 n a0 a1 i5_2 k_l1
def rText_l4 (n : Nat) (a0 : UInt8) (a1 : List UInt8) (i5_2 : Int) (k_l1 : Int → Option (Bool)) : Nat → Bool → Int → Option (Bool)
 | 0, _, _ => none
 | fu_l4 + 1, p7_136, i9_189 =>
 bif (decide (i9_189 < (([32, 39, 40, 41, 43, 44, 45, 46, 47, 58, 61, 63].length : Nat) : Int))) then
 bif p7_136 then
 gd (okI .i64 (i9_189 + 1)) <|
 (rText_l4 n a0 a1 i5_2 k_l1 fu_l4) true (i9_189 + 1)
 else
 gd (0 ≤ i9_189) <|
 gd (i9_189 < (([32, 39, 40, 41, 43, 44, 45, 46, 47, 58, 61, 63].length : Nat) : Int)) <|
 gd (okI .i64 (i9_189 + 1)) <|
 (rText_l4 n a0 a1 i5_2 k_l1 fu_l4) ((a1.getD i5_2.toNat 0) == ([32, 39, 40, 41, 43, 44, 45, 46, 47, 58, 61, 63].getD i9_189.toNat 0)) (i9_189 + 1)
 else
 bif (!p7_136) then
 some false
 else
 rText_j1 n a0 a1 i5_2 k_l1
def rText_l5 (n : Nat) (a0 : UInt8) (a1 : List UInt8) (i5_2 : Int) (k_l1 : Int → Option (Bool)) : Nat → Bool → Int → Option (Bool)
 | 0, _, _ => none
 | fu_l5 + 1, p7_137, i9_190 =>
 bif (decide (i9_190 < (([32, 39, 40, 41, 43, 44, 45, 46, 47, 58, 61, 63].length : Nat) : Int))) then
 bif p7_137 then
 gd (okI .i64 (i9_190 + 1)) <|
 (rText_l5 n a0 a1 i5_2 k_l1 fu_l5) true (i9_190 + 1)
 else
 gd (0 ≤ i9_190) <|
 gd (i9_190 < (([32, 39, 40, 41, 43, 44, 45, 46, 47, 58, 61, 63].length : Nat) : Int)) <|
 gd (okI .i64 (i9_190 + 1)) <|
 (rText_l5 n a0 a1 i5_2 k_l1 fu_l5) ((a1.getD i5_2.toNat 0) == ([32, 39, 40, 41, 43, 44, 45, 46, 47, 58, 61, 63].getD i9_190.toNat 0)) (i9_190 + 1)
 else
 bif (!p7_137) then
 some false
 else
 rText_j1 n a0 a1 i5_2 k_l1
def rText_l6 (n : Nat) (a0 : UInt8) (a1 : List UInt8) (i5_2 : Int) (k_l1 : Int → Option (Bool)) : Nat → Bool → Int → Option (Bool)
 | 0, _, _ => none
 | fu_l6 + 1, p7_138, i9_191 =>
 bif (decide (i9_191 < (([32, 39, 40, 41, 43, 44, 45, 46, 47, 58, 61, 63].length : Nat) : Int))) then
 bif p7_138 then
 gd (okI .i64 (i9_191 + 1)) <|
 (rText_l6 n a0 a1 i5_2 k_l1 fu_l6) true (i9_191 + 1)
 else
 gd (0 ≤ i9_191) <|
 gd (i9_191 < (([32, 39, 40, 41, 43, 44, 45, 46, 47, 58, 61, 63].length : Nat) : Int)) <|
 gd (okI .i64 (i9_191 + 1)) <|
 (rText_l6 n a0 a1 i5_2 k_l1 fu_l6) ((a1.getD i5_2.toNat 0) == ([32, 39, 40, 41, 43, 44, 45, 46, 47, 58, 61, 63].getD i9_191.toNat 0)) (i9_191 + 1)
 else
 bif (!p7_138) then
 some false
 else
 rText_j1 n a0 a1 i5_2 k_l1
def rText_l7 (n : Nat) (a0 : UInt8) (a1 : List UInt8) (i5_2 : Int) (k_l1 : Int → Option (Bool)) : Nat → Bool → Int → Option (Bool)
 | 0, _, _ => none
 | fu_l7 + 1, p7_139, i9_192 =>
 bif (decide (i9_192 < (([32, 39, 40, 41, 43, 44, 45, 46, 47, 58, 61, 63].length : Nat) : Int))) then
 bif p7_139 then
 gd (okI .i64 (i9_192 + 1)) <|
 (rText_l7 n a0 a1 i5_2 k_l1 fu_l7) true (i9_192 + 1)
 else
 gd (0 ≤ i9_192) <|
 gd (i9_192 < (([32, 39, 40, 41, 43, 44, 45, 46, 47, 58, 61, 63].length : Nat) : Int)) <|
 gd (okI .i64 (i9_192 + 1)) <|
 (rText_l7 n a0 a1 i5_2 k_l1 fu_l7) ((a1.getD i5_2.toNat 0) == ([32, 39, 40, 41, 43, 44, 45, 46, 47, 58, 61, 63].getD i9_192.toNat 0)) (i9_192 + 1)
 else
 bif (!p7_139) then
 some false
 else
 rText_j1 n a0 a1 i5_2 k_l1
def rText_l8 (n : Nat) (a0 : UInt8) (a1 : List UInt8) (i5_2 : Int) (k_l1 : Int → Option (Bool)) : Nat → Int → Option (Bool)
 | 0, _ => none
 | fu_l8 + 1, i9_193 =>
 bif (decide (i9_193 < (([32, 39, 40, 41, 43, 44, 45, 46, 47, 58, 61, 63].length : Nat) : Int))) then
 gd (okI .i64 (i9_193 + 1)) <|
 (rText_l8 n a0 a1 i5_2 k_l1 fu_l8) (i9_193 + 1)
 else
 rText_j1 n a0 a1 i5_2 k_l1
def rText_l9 (n : Nat) (a0 : UInt8) (a1 : List UInt8) (i5_2 : Int) (k_l1 : Int → Option (Bool)) : Nat → Bool → Int → Option (Bool)
 | 0, _, _ => none
 | fu_l9 + 1, p7_140, i9_194 =>
 bif (decide (i9_194 < (([32, 39, 40, 41, 43, 44, 45, 46, 47, 58, 61, 63].length : Nat) : Int))) then
 bif p7_140 then
 gd (okI .i64 (i9_194 + 1)) <|
 (rText_l9 n a0 a1 i5_2 k_l1 fu_l9) true (i9_194 + 1)
 else
 gd (0 ≤ i9_194) <|
 gd (i9_194 < (([32, 39, 40, 41, 43, 44, 45, 46, 47, 58, 61, 63].length : Nat) : Int)) <|
 gd (okI .i64 (i9_194 + 1)) <|
 (rText_l9 n a0 a1 i5_2 k_l1 fu_l9) ((a1.getD i5_2.toNat 0) == ([32, 39, 40, 41, 43, 44, 45, 46, 47, 58, 61, 63].getD i9_194.toNat 0)) (i9_194 + 1)
 else
 bif (!p7_140) then
 some false
 else
 rText_j1 n a0 a1 i5_2 k_l1
def rText_l10 (n : Nat) (a0 : UInt8) (a1 : List UInt8) (i5_2 : Int) (k_l1 : Int → Option (Bool)) : Nat → Bool → Int → Option (Bool)
 | 0, _, _ => none
 | fu_l10 + 1, p7_141, i9_195 =>
 bif (decide (i9_195 < (([32, 39, 40, 41, 43, 44, 45, 46, 47, 58, 61, 63].length : Nat) : Int))) then
 bif p7_141 then
 gd (okI .i64 (i9_195 + 1)) <|
 (rText_l10 n a0 a1 i5_2 k_l1 fu_l10) true (i9_195 + 1)
 else
 gd (0 ≤ i9_195) <|
 gd (i9_195 < (([32, 39, 40, 41, 43, 44, 45, 46, 47, 58, 61, 63].length : Nat) : Int)) <|
 gd (okI .i64 (i9_195 + 1)) <|
 (rText_l10 n a0 a1 i5_2 k_l1 fu_l10) ((a1.getD i5_2.toNat 0) == ([32, 39, 40, 41, 43, 44, 45, 46, 47, 58, 61, 63].getD i9_195.toNat 0)) (i9_195 + 1)
 else
 bif (!p7_141) then
 some false
 else
 rText_j1 n a0 a1 i5_2 k_l1
def rText_l11 (n : Nat) (a0 : UInt8) (a1 : List UInt8) (i5_2 : Int) (k_l1 : Int → Option (Bool)) : Nat → Bool → Int → Option (Bool)
 | 0, _, _ => none
 | fu_l11 + 1, p7_142, i9_196 =>
 bif (decide (i9_196 < (([32, 39, 40, 41, 43, 44, 45, 46, 47, 58, 61, 63].length : Nat) : Int))) then
 bif p7_142 then
 gd (okI .i64 (i9_196 + 1)) <|
 (rText_l11 n a0 a1 i5_2 k_l1 fu_l11) true (i9_196 + 1)
 else
 gd (0 ≤ i9_196) <|
 gd (i9_196 < (([32, 39, 40, 41, 43, 44, 45, 46, 47, 58, 61, 63].length : Nat) : Int)) <|
 gd (okI .i64 (i9_196 + 1)) <|
 (rText_l11 n a0 a1 i5_2 k_l1 fu_l11) ((a1.getD i5_2.toNat 0) == ([32, 39, 40, 41, 43, 44, 45, 46, 47, 58, 61, 63].getD i9_196.toNat 0)) (i9_196 + 1)
 else
 bif (!p7_142) then
 some false
 else
 rText_j1 n a0 a1 i5_2 k_l1
def rText_l12 (n : Nat) (a0 : UInt8) (a1 : List UInt8) (i5_2 : Int) (k_l1 : Int → Option (Bool)) : Nat → Bool → Int → Option (Bool)
 | 0, _, _ => none
 | fu_l12 + 1, p7_143, i9_197 =>
 bif (decide (i9_197 < (([32, 39, 40, 41, 43, 44, 45, 46, 47, 58, 61, 63].length : Nat) : Int))) then
 bif p7_143 then
 gd (okI .i64 (i9_197 + 1)) <|
 (rText_l12 n a0 a1 i5_2 k_l1 fu_l12) true (i9_197 + 1)
 else
 gd (0 ≤ i9_197) <|
 gd (i9_197 < (([32, 39, 40, 41, 43, 44, 45, 46, 47, 58, 61, 63].length : Nat) : Int)) <|
 gd (okI .i64 (i9_197 + 1)) <|
 (rText_l12 n a0 a1 i5_2 k_l1 fu_l12) ((a1.getD i5_2.toNat 0) == ([32, 39, 40, 41, 43, 44, 45, 46, 47, 58, 61, 63].getD i9_197.toNat 0)) (i9_197 + 1)
 else
 bif (!p7_143) then
 some false
 else
 rText_j1 n a0 a1 i5_2 k_l1
def rText_l1 (n : Nat) (a0 : UInt8) (a1 : List UInt8) : Nat → Int → Option (Bool)
 | 0, _ => none
 | fu_l1 + 1, i5_2 =>
 bif (decide (i5_2 < ((a1.length : Nat) : Int))) then
 gd (0 ≤ i5_2) <|
 gd (i5_2 < ((a1.length : Nat) : Int)) <|
 bif (decide ((128 : UInt8) ≤ (a1.getD i5_2.toNat 0))) then
 some false
 else
 bif (a0 == 19) then
 bif (decide ((97 : UInt8) ≤ (a1.getD i5_2.toNat 0))) then
 bif (decide ((a1.getD i5_2.toNat 0) ≤ (122 : UInt8))) then
 rText_l2 n a0 a1 i5_2 (rText_l1 n a0 a1 fu_l1) n 0
 else
 bif (decide ((65 : UInt8) ≤ (a1.getD i5_2.toNat 0))) then
 bif (decide ((a1.getD i5_2.toNat 0) ≤ (90 : UInt8))) then
 rText_l3 n a0 a1 i5_2 (rText_l1 n a0 a1 fu_l1) n 0
 else
 bif (decide ((48 : UInt8) ≤ (a1.getD i5_2.toNat 0))) then
 rText_l4 n a0 a1 i5_2 (rText_l1 n a0 a1 fu_l1) n (decide ((a1.getD i5_2.toNat 0) ≤ (57 : UInt8))) 0
 else
 rText_l5 n a0 a1 i5_2 (rText_l1 n a0 a1 fu_l1) n false 0
 else
 bif (decide ((48 : UInt8) ≤ (a1.getD i5_2.toNat 0))) then
 rText_l6 n a0 a1 i5_2 (rText_l1 n a0 a1 fu_l1) n (decide ((a1.getD i5_2.toNat 0) ≤ (57 : UInt8))) 0
 else
 rText_l7 n a0 a1 i5_2 (rText_l1 n a0 a1 fu_l1) n false 0
 else
 bif (decide ((65 : UInt8) ≤ (a1.getD i5_2.toNat 0))) then
 bif (decide ((a1.getD i5_2.toNat 0) ≤ (90 : UInt8))) then
 rText_l8 n a0 a1 i5_2 (rText_l1 n a0 a1 fu_l1) n 0
 else
 bif (decide ((48 : UInt8) ≤ (a1.getD i5_2.toNat 0))) then
 rText_l9 n a0 a1 i5_2 (rText_l1 n a0 a1 fu_l1) n (decide ((a1.getD i5_2.toNat 0) ≤ (57 : UInt8))) 0
 else
 rText_l10 n a0 a1 i5_2 (rText_l1 n a0 a1 fu_l1) n false 0
 else
 bif (decide ((48 : UInt8) ≤ (a1.getD i5_2.toNat 0))) then
 rText_l11 n a0 a1 i5_2 (rText_l1 n a0 a1 fu_l1) n (decide ((a1.getD i5_2.toNat 0) ≤ (57 : UInt8))) 0
 else
 rText_l12 n a0 a1 i5_2 (rText_l1 n a0 a1 fu_l1) n false 0
 else
 rText_j1 n a0 a1 i5_2 (rText_l1 n a0 a1 fu_l1)
 else
 some true
def rText (n : Nat) (a0 : UInt8) (a1 : List UInt8) : Option (Bool) :=
 bif (a0 == 12) then
  (rPoints n a1).bind fun r13 =>
  some r13
 else
  rText_l1 n a0 a1 n 0
def rOid (n : Nat) (a0 : List UInt32) : Option (Bool) :=
 bif (decide (((a0.length : Nat) : Int) < (2 : Int))) then
 some false
 else
 bif (decide ((16 : Int) < ((a0.length : Nat) : Int))) then
 some false
 else
 gd (0 ≤ (0 : Int)) <|
 gd ((0 : Int) < ((a0.length : Nat) : Int)) <|
 bif (decide ((2 : UInt32) < (a0.getD 0 0))) then
 some false
 else
 gd (0 ≤ (0 : Int)) <|
 gd ((0 : Int) < ((a0.length : Nat) : Int)) <|
 bif (decide ((a0.getD 0 0) < (2 : UInt32))) then
 gd (0 ≤ (1 : Int)) <|
 gd ((1 : Int) < ((a0.length : Nat) : Int)) <|
 some (decide ((a0.getD 1 0) < (40 : UInt32)))
 else
 gd (0 ≤ (1 : Int)) <|
 gd ((1 : Int) < ((a0.length : Nat) : Int)) <|
 some (decide ((a0.getD 1 0) ≤ (4294967215 : UInt32)))
def rgroup : Nat → UInt32 → Option (List UInt8)
 | 0, _ => none
 | n + 1, a0 =>
  bif (decide (a0 < (128 : UInt32))) then
   some [a0.toUInt8]
  else
   gd ((128 : UInt32) ≠ 0) <|
   (rgroup n (a0 / (128 : UInt32))).bind fun r11 =>
   gd (okI .i64 (((r11.length : Nat) : Int) - 1)) <|
   gd (okI .i64 (((r11.length : Nat) : Int) - 1)) <|
   gd (0 ≤ (((r11.length : Nat) : Int) - 1)) <|
   gd ((((r11.length : Nat) : Int) - 1) < ((r11.length : Nat) : Int)) <|
   gd (0 ≤ (((r11.length : Nat) : Int) - 1)) <|
   gd ((((r11.length : Nat) : Int) - 1) < ((r11.length : Nat) : Int)) <|
   gd ((128 : UInt32) ≠ 0) <|
   gd (rmB (r11.length + 1) 1) <|
   some ((r11.set ((((r11.length : Nat) : Int) - 1).toNat) ((r11.getD ((((r11.length : Nat) : Int) - 1).toNat) 0) + (128 : UInt8))) ++ [(a0 % (128 : UInt32)).toUInt8])
def rOidBody_l1 (n : Nat) (a0 : List UInt32) : Nat → List UInt8 → Int → Option (List UInt8)
 | 0, _, _ => none
 | fu_l1 + 1, l3_2, i4_2 =>
  bif (decide (i4_2 < ((a0.length : Nat) : Int))) then
   gd (0 ≤ i4_2) <|
   gd (i4_2 < ((a0.length : Nat) : Int)) <|
   (rgroup n (a0.getD i4_2.toNat 0)).bind fun r25_3 =>
   gd (rmB (l3_2.length + r25_3.length) 1) <|
   gd (okI .i64 (i4_2 + 1)) <|
   (rOidBody_l1 n a0 fu_l1) (l3_2 ++ r25_3) (i4_2 + 1)
  else
   some l3_2
def rOidBody (n : Nat) (a0 : List UInt32) : Option (List UInt8) :=
 gd (0 ≤ (0 : Int)) <|
 gd ((0 : Int) < ((a0.length : Nat) : Int)) <|
 gd (0 ≤ (1 : Int)) <|
 gd ((1 : Int) < ((a0.length : Nat) : Int)) <|
 (rgroup n (((40 : UInt32) * (a0.getD 0 0)) + (a0.getD 1 0))).bind fun r13 =>
 rOidBody_l1 n a0 n r13 2
def pident_R (r : Bool) : S := ⟨[(2, kB r)], [], []⟩
def pident_ct (n : Nat) (r : Bool) : Ct := ctc (rW 92).rd fun _ l0 => ct0 fun H => ([pident n l0 = some r], shA H.length (kB r), shH H.length [])
theorem pident_ok (n : Nat) (r : Bool) : FnOk Try.prog Tr 63 (pident_ct n r) := by
 refine fnok Try.func63 ?_
 refine HO_c (rW 92) fun l0 _ => HO_0 tabO_oa (pident_R r) [.tmp 2] [] 31 Try.func63 fun w hG h => ?_
 unfold pident at h
 have hT := tabO_oa
 refine Vrs hT [0] ⟨[(0, kH 0)], [], [ow 92 l0]⟩ ?_
 refine W_seq ?_
 refine W_seq ?_
 rcases Bool.eq_false_or_eq_true (decide (((l0.length : Nat) : Int) < (2 : Int))) with g1 | g1
 ·replace h := bif_t h g1
  refine Vg hT fN [(3, true)] [] [0] ⟨[(0, kH 0), (16, kB true)], [], [ow 92 l0]⟩ (aP g1 aN) ?_
  refine Vi (true) (fun _ => ?_) (fun hb => by cases hb)
  refine Vrs hT [] ⟨[(2, kB false)], [], []⟩ ?_
  refine Vc [] [] (pident_R false) (W_ret ?_)
  exact ⟨.inl rfl, by cases h; rfl⟩
 ·replace h := bif_f h g1
  rcases Bool.eq_false_or_eq_true (decide ((16 : Int) < ((l0.length : Nat) : Int))) with g2 | g2
  ·replace h := bif_t h g2
   refine Vg hT fN [(3, false), (8, true)] [] [0] ⟨[(0, kH 0), (16, kB true)], [], [ow 92 l0]⟩ (aP g1 (aP g2 aN)) ?_
   refine Vi (true) (fun _ => ?_) (fun hb => by cases hb)
   refine Vrs hT [] ⟨[(2, kB false)], [], []⟩ ?_
   refine Vc [] [] (pident_R false) (W_ret ?_)
   exact ⟨.inl rfl, by cases h; rfl⟩
  ·replace h := bif_f h g2
   obtain ⟨g3, g4, h⟩ := gd2 h
   refine Vg hT fN [(3, false), (8, false)] [] [0] ⟨[(0, kH 0), (16, kB (decide ((2 : UInt32) < (l0.getD 0 0))))], [], [ow 92 l0]⟩ (aP g1 (aP g2 (aP g3 (aP g4 aN)))) ?_
   refine Vi ((decide ((2 : UInt32) < (l0.getD 0 0)))) (fun g12 => ?_) (fun g12 => ?_)
   ·replace h := bif_t h g12
    refine Vrs hT [] ⟨[(2, kB false)], [], []⟩ ?_
    refine Vc [] [] (pident_R false) (W_ret ?_)
    exact ⟨.inl rfl, by cases h; rfl⟩
   ·replace h := bif_f h g12
    refine W_skip ?_
    refine W_seq ?_
    obtain ⟨g5, g6, h⟩ := gd2 h
    refine Vgs hT fN [] [] [0] ⟨[(0, kH 0), (20, kB (decide ((l0.getD 0 0) < (2 : UInt32))))], [], [ow 92 l0]⟩ (aP g5 (aP g6 aN)) ?_
    refine Vi ((decide ((l0.getD 0 0) < (2 : UInt32)))) (fun g11 => ?_) (fun g11 => ?_)
    ·replace h := bif_t h g11
     obtain ⟨g7, g8, h⟩ := gd2 h
     refine Vgs hT fN [] [] [] ⟨[(2, kB (decide ((l0.getD 1 0) < (40 : UInt32))))], [], []⟩ (aP g7 (aP g8 aN)) ?_
     refine Vc [] [] (pident_R (decide ((l0.getD 1 0) < (40 : UInt32)))) (W_ret ?_)
     exact ⟨.inl rfl, by cases h; rfl⟩
    ·replace h := bif_f h g11
     refine W_skip ?_
     obtain ⟨g9, g10, h⟩ := gd2 h
     refine Vgs hT fN [] [] [] ⟨[(2, kB (decide ((((l0.getD 1 0).toUInt64) + (80 : UInt64)) < (4294967296 : UInt64))))], [], []⟩ (aP g9 (aP g10 aN)) ?_
     refine Vc [] [] (pident_R (decide ((((l0.getD 1 0).toUInt64) + (80 : UInt64)) < (4294967296 : UInt64)))) (W_ret ?_)
     exact ⟨.inl rfl, by cases h; rfl⟩
def pOid_l1_E (a0 : List UInt32) (l4_1 : List UInt8) (i23_1 : Int) : S := ⟨[(4, kH 0), (21, kH 1), (22, kI (((a0.length - 2) : Nat) : Int)), (23, kI i23_1)], [], [nb 5 l4_1, ⟨(.ro false), 92, 1, (a0.length - 2), .w ((a0.drop 2).take (a0.length - 2))⟩]⟩
abbrev pOid_l1_P (n : Nat) (a0 : List UInt32) (r : List UInt8 × Option Int) (fu : Nat) : S → Prop := fun s => ∃ (l4_1 : List UInt8), ∃ (i23_1 : Int), s = pOid_l1_E a0 l4_1 i23_1 ∧ pOid_l1 n a0 fu l4_1 i23_1 = some r
def pOid_R (r : List UInt8 × Option Int) : S := ⟨[(2, kH 0), (3, kE 38 r.2)], [], [nb 5 r.1]⟩
def pOid_ct (n : Nat) (r : List UInt8 × Option Int) : Ct := ctc (rW 92).rd fun _ l0 => ct0 fun H => ([pOid n l0 = some r], shA H.length (.t [.c (.wh 0), .c (.s (.er 38 .i64 r.2))]), shH H.length [nb 5 r.1])
theorem pOid_ok (n : Nat) (r : List UInt8 × Option Int) : FnOk Try.prog Tr 40 (pOid_ct n r) := by
 refine fnok Try.func40 ?_
 refine HO_c (rW 92) fun l0 _ => HO_0 tabO_oa (pOid_R r) [.tmp 2, .tmp 3] [0] 33 Try.func40 fun w hG h => ?_
 unfold pOid at h
 have hT := tabO_oa
 refine Vrs hT [0] ⟨[(0, kH 0)], [], [ow 92 l0]⟩ ?_
 refine W_seq ?_
 obtain ⟨r8, g1, h⟩ := bind_some' h
 refine Vgs hT (fT 1 (pident_ok n r8) fN) [] [] [0] ⟨[(0, kH 0), (9, kB (!r8))], [], [ow 92 l0]⟩ (aP g1 aN) ?_
 refine Vi ((!r8)) (fun g13 => ?_) (fun g13 => ?_)
 ·replace h := bif_t h g13
  refine Vrs hT [] ⟨[(2, .c (.nils)), (3, kE 38 (some 1))], [], []⟩ ?_
  refine Vc [.nil 2 5 1 (.b [])] [0] (pOid_R ([], (some 1))) (W_ret ?_)
  exact ⟨.inl rfl, by cases h; rfl⟩
 ·replace h := bif_f h g13
  refine W_skip ?_
  obtain ⟨g2, g3, g4, g5, h⟩ := gd4 h
  refine Vds hT (fT 8 group_h fN) 7 [] [(0, false), (14, false), (17, false)] [] [0, 1] ⟨[(0, kH 0), (4, kH 1)], [], [ow 92 l0, nb 5 (grp (((40 : UInt32) * (l0.getD 0 0)) + (l0.getD 1 0)))]⟩ (aP g2 (aP g3 (aP g4 (aP g5 aN)))) ?_
  refine W_seq ?_
  obtain ⟨g6, g7, h⟩ := gd2 h
  refine Vgs hT fN [] [] [1, 0] ⟨[(4, kH 0), (21, .c (.sl 1 2 (l0.length - 2))), (22, kI (((l0.length - 2) : Nat) : Int)), (23, kI 0)], [], [nb 5 (grp (((40 : UInt32) * (l0.getD 0 0)) + (l0.getD 1 0))), ow 92 l0]⟩ (aP g6 (aP g7 aN)) ?_
  refine W_block ?_
  refine Vc [.vw 21 false] [0, 2] (pOid_l1_E l0 (grp (((40 : UInt32) * (l0.getD 0 0)) + (l0.getD 1 0))) 0) (W_lp ((pOid_l1_P n l0 r)) n ⟨_, _, rfl, h⟩ ?_)
  rintro fu_l1 _ ⟨l4_1, i23_1, rfl, h⟩
  cases fu_l1 with
  | zero => cases h
  | succ fu_l1 =>
   refine ⟨fu_l1, rfl, ?_⟩
   rw [pOid_l1] at h
   refine Vrs hT [0, 1] ⟨[(4, kH 0), (21, kH 1), (22, kI (((l0.length - 2) : Nat) : Int)), (23, kI i23_1), (24, kB (decide (i23_1 < (((l0.length - 2) : Nat) : Int))))], [], [nb 5 l4_1, ⟨(.ro false), 92, 1, (l0.length - 2), .w ((l0.drop 2).take (l0.length - 2))⟩]⟩ ?_
   refine W_seq ?_
   refine Vi ((decide (i23_1 < (((l0.length - 2) : Nat) : Int)))) (fun g12 => ?_) (fun g12 => ?_)
   ·replace h := bif_t h g12
    refine W_skip ?_
    refine W_seq ?_
    refine W_block ?_
    obtain ⟨g8, g9, h⟩ := gd2 h
    refine Vgs hT fN [] [] [0, 1] ⟨[(4, kH 0), (6, kX (((l0.drop 2).take (l0.length - 2)).getD i23_1.toNat 0)), (21, kH 1), (22, kI (((l0.length - 2) : Nat) : Int)), (23, kI i23_1)], [], [nb 5 l4_1, ⟨(.ro false), 92, 1, (l0.length - 2), .w ((l0.drop 2).take (l0.length - 2))⟩]⟩ (aP g8 (aP g9 aN)) ?_
    obtain ⟨g10, h⟩ := gd_some h
    refine Vg hT (fT 2 group_h fN) [] [] [3, 1] ⟨[(4, kH 0), (21, kH 1), (22, kI (((l0.length - 2) : Nat) : Int)), (23, kI i23_1)], [], [nb 5 (l4_1 ++ (grp (((l0.drop 2).take (l0.length - 2)).getD i23_1.toNat 0))), ⟨(.ro false), 92, 1, (l0.length - 2), .w ((l0.drop 2).take (l0.length - 2))⟩]⟩ (aP g10 aN) ?_
    obtain ⟨g11, h⟩ := gd_some h
    refine Vg hT fN [] [] [0, 1] (pOid_l1_E l0 (l4_1 ++ (grp (((l0.drop 2).take (l0.length - 2)).getD i23_1.toNat 0))) (i23_1 + 1)) (aP g11 aN) ?_
    exact ⟨_, _, rfl, h⟩
   ·replace h := bif_f h g12
    refine Vc [] [0] ⟨[(4, kH 0)], [], [nb 5 l4_1]⟩ (W_exit ?_)
    refine Vrs hT [0] ⟨[(2, kH 0), (3, .c (.s (.v .nilIface)))], [], [nb 5 l4_1]⟩ ?_
    refine Vc [.er 3 38 .i64] [0] (pOid_R (l4_1, none)) (W_ret ?_)
    exact ⟨.inl rfl, by cases h; rfl⟩
def pText_j1_E (p5_2 : Bool) : S := ⟨[(5, kB p5_2)], [], []⟩
abbrev pText_j1_P (n : Nat) (r : Option Int) : S → Prop := fun s => ∃ (p5_2 : Bool), s = pText_j1_E p5_2 ∧ pText_j1 n p5_2 = some r
def pText_R (r : Option Int) : S := ⟨[(4, kE 38 r)], [], []⟩
def pText_ct (n : Nat) (r : Option Int) : Ct := ctc rU8.rd fun _ l0 => ctc (rB 5).rd fun _ l1 => ct0 fun H => ([pText n l0 l1 = some r], shA H.length (kE 38 r), shH H.length [])
theorem pText_ok (n : Nat) (r : Option Int) : FnOk Try.prog Tr 41 (pText_ct n r) := by
 refine fnok Try.func41 ?_
 refine HO_c rU8 fun l0 _ => HO_c (rB 5) fun l1 _ => HO_0 tabO_oa (pText_R r) [.tmp 4] [] 26 Try.func41 fun w hG h => ?_
 unfold pText at h
 have hT := tabO_oa
 refine Vrs hT [0] ⟨[(0, kU l0), (1, kH 0)], [], [ob 5 l1]⟩ ?_
 refine Vrs hT [0] ⟨[(0, kU l0), (1, kH 0)], [], [ob 5 l1]⟩ ?_
 refine W_join (pText_j1_P n r) ?_ ?_
 ·rintro _ ⟨p5_2, rfl, h⟩
  unfold pText_j1 at h
  refine W_seq ?_
  refine Vrs hT [] ⟨[(24, kB (!p5_2))], [], []⟩ ?_
  refine Vi ((!p5_2)) (fun g1 => ?_) (fun g1 => ?_)
  ·replace h := bif_t h g1
   refine Vrs hT [] ⟨[(4, kE 38 (some 2))], [], []⟩ ?_
   refine Vc [] [] (pText_R (some 2)) (W_ret ?_)
   exact ⟨.inl rfl, by cases h; rfl⟩
  ·replace h := bif_f h g1
   refine W_skip ?_
   refine Vrs hT [] ⟨[(4, .c (.s (.v .nilIface)))], [], []⟩ ?_
   refine Vc [.er 4 38 .i64] [] (pText_R none) (W_ret ?_)
   exact ⟨.inl rfl, by cases h; rfl⟩
 ·refine W_seq ?_
  refine Vr hT [0] ⟨[(1, kH 0), (6, kU l0)], [], [ob 5 l1]⟩ ?_
  refine W_block ?_
  refine Vrs hT [0] ⟨[(1, kH 0), (6, kU l0), (8, kB (l0 == 12))], [], [ob 5 l1]⟩ ?_
  refine Vi ((l0 == 12)) (fun g5 => ?_) (fun g5 => ?_)
  ·replace h := bif_t h g5
   obtain ⟨g2, h⟩ := gd_some h
   refine Vg hT (fT 2 pts_h fN) [] [] [] (pText_j1_E (ptsF l1)) (aP g2 aN) ?_
   exact ⟨_, rfl, h⟩
  ·replace h := bif_f h g5
   refine Vrs hT [0] ⟨[(1, kH 0), (6, kU l0), (13, kB (l0 == 19))], [], [ob 5 l1]⟩ ?_
   refine Vi ((l0 == 19)) (fun g4 => ?_) (fun g4 => ?_)
   ·replace h := bif_t h g4
    refine Vg hT (fT 1 cf_h fN) [] [] [] (pText_j1_E (!((l1).any prtN))) aN ?_
    exact ⟨_, rfl, h⟩
   ·replace h := bif_f h g4
    refine Vrs hT [0] ⟨[(1, kH 0), (18, kB (l0 == 22))], [], [ob 5 l1]⟩ ?_
    refine Vi ((l0 == 22)) (fun g3 => ?_) (fun g3 => ?_)
    ·replace h := bif_t h g3
     refine Vg hT (fT 1 cf_h fN) [] [] [] (pText_j1_E (!((l1).any hiB))) aN ?_
     exact ⟨_, rfl, h⟩
    ·replace h := bif_f h g3
     refine Vrs hT [] ⟨[(4, kE 38 (some 1))], [], []⟩ ?_
     refine Vc [] [] (pText_R (some 1)) (W_ret ?_)
     exact ⟨.inl rfl, by cases h; rfl⟩
def rlater_R (r : Bool) : S := ⟨[(2, kB r)], [], []⟩
def rlater_ct (n : Nat) (r : Bool) : Ct := ctc rU8.rd fun _ l0 => ct0 fun H => ([rlater n l0 = some r], shA H.length (kB r), shH H.length [])
theorem rlater_ok (n : Nat) (r : Bool) : FnOk Try.prog Tr 84 (rlater_ct n r) := by
 refine fnok Try.func84 ?_
 refine HO_c rU8 fun l0 _ => HO_0 tabO_oa (rlater_R r) [.tmp 2] [] 9 Try.func84 fun w hG h => ?_
 unfold rlater at h
 have hT := tabO_oa
 refine Vrs hT [] ⟨[(0, kU l0)], [], []⟩ ?_
 refine W_seq ?_
 rcases Bool.eq_false_or_eq_true (decide ((128 : UInt8) ≤ l0)) with g1 | g1
 ·replace h := bif_t h g1
  refine Vg hT fN [(2, true)] [] [] ⟨[(2, kB (decide (l0 < (192 : UInt8))))], [], []⟩ (aP g1 aN) ?_
  refine Vc [] [] (rlater_R (decide (l0 < (192 : UInt8)))) (W_ret ?_)
  exact ⟨.inl rfl, by cases h; rfl⟩
 ·replace h := bif_f h g1
  refine Vg hT fN [(2, false)] [] [] ⟨[(2, kB false)], [], []⟩ (aP g1 aN) ?_
  refine Vc [] [] (rlater_R false) (W_ret ?_)
  exact ⟨.inl rfl, by cases h; rfl⟩
def rPoints_l2_E (a0 : List UInt8) (i3_2 : Int) (i5_8 : Int) (i8_16 : Int) : S := ⟨[(0, kH 0), (3, kI i3_2), (5, kI i5_8), (8, kI i8_16)], [], [ob 5 a0]⟩
abbrev rPoints_l2_P (n : Nat) (a0 : List UInt8) (i3_2 : Int) (i5_8 : Int) (k_l1 : Int → Option (Bool)) (r : Bool) (fu : Nat) : S → Prop := fun s => ∃ (i8_16 : Int), s = rPoints_l2_E a0 i3_2 i5_8 i8_16 ∧ rPoints_l2 n a0 i3_2 i5_8 k_l1 fu i8_16 = some r
def rPoints_l3_E (a0 : List UInt8) (i3_2 : Int) (i5_8 : Int) (i8_17 : Int) : S := ⟨[(0, kH 0), (3, kI i3_2), (5, kI i5_8), (8, kI i8_17)], [], [ob 5 a0]⟩
abbrev rPoints_l3_P (n : Nat) (a0 : List UInt8) (i3_2 : Int) (i5_8 : Int) (k_l1 : Int → Option (Bool)) (r : Bool) (fu : Nat) : S → Prop := fun s => ∃ (i8_17 : Int), s = rPoints_l3_E a0 i3_2 i5_8 i8_17 ∧ rPoints_l3 n a0 i3_2 i5_8 k_l1 fu i8_17 = some r
def rPoints_j5_E (a0 : List UInt8) (i3_2 : Int) (i5_8 : Int) (i6_17 : Int) (i7_17 : Int) : S := ⟨[(0, kH 0), (3, kI i3_2), (5, kI i5_8), (6, kI i6_17), (7, kI i7_17)], [], [ob 5 a0]⟩
abbrev rPoints_j5_P (n : Nat) (a0 : List UInt8) (i3_2 : Int) (i5_8 : Int) (i6_17 : Int) (k_l1 : Int → Option (Bool)) (r : Bool) : S → Prop := fun s => ∃ (i7_17 : Int), s = rPoints_j5_E a0 i3_2 i5_8 i6_17 i7_17 ∧ rPoints_j5 n a0 i3_2 i5_8 i6_17 k_l1 i7_17 = some r
def rPoints_j4_E (a0 : List UInt8) (i3_2 : Int) (i5_8 : Int) (i7_16 : Int) (i6_17 : Int) : S := ⟨[(0, kH 0), (3, kI i3_2), (4, kI (((a0.getD i3_2.toNat 0).toNat : Nat) : Int)), (5, kI i5_8), (6, kI i6_17), (7, kI i7_16)], [], [ob 5 a0]⟩
abbrev rPoints_j4_P (n : Nat) (a0 : List UInt8) (i3_2 : Int) (i5_8 : Int) (i7_16 : Int) (k_l1 : Int → Option (Bool)) (r : Bool) : S → Prop := fun s => ∃ (i6_17 : Int), s = rPoints_j4_E a0 i3_2 i5_8 i7_16 i6_17 ∧ rPoints_j4 n a0 i3_2 i5_8 i7_16 k_l1 i6_17 = some r
def rPoints_j3_E (a0 : List UInt8) (i3_2 : Int) (i5_8 : Int) (i6_16 : Int) (i7_16 : Int) : S := ⟨[(0, kH 0), (3, kI i3_2), (4, kI (((a0.getD i3_2.toNat 0).toNat : Nat) : Int)), (5, kI i5_8), (6, kI i6_16), (7, kI i7_16)], [], [ob 5 a0]⟩
abbrev rPoints_j3_P (n : Nat) (a0 : List UInt8) (i3_2 : Int) (i5_8 : Int) (i6_16 : Int) (k_l1 : Int → Option (Bool)) (r : Bool) : S → Prop := fun s => ∃ (i7_16 : Int), s = rPoints_j3_E a0 i3_2 i5_8 i6_16 i7_16 ∧ rPoints_j3 n a0 i3_2 i5_8 i6_16 k_l1 i7_16 = some r
def rPoints_j2_E (a0 : List UInt8) (i3_2 : Int) (i5_8 : Int) (i6_16 : Int) : S := ⟨[(0, kH 0), (3, kI i3_2), (4, kI (((a0.getD i3_2.toNat 0).toNat : Nat) : Int)), (5, kI i5_8), (6, kI i6_16), (7, kI 191)], [], [ob 5 a0]⟩
abbrev rPoints_j2_P (n : Nat) (a0 : List UInt8) (i3_2 : Int) (i5_8 : Int) (k_l1 : Int → Option (Bool)) (r : Bool) : S → Prop := fun s => ∃ (i6_16 : Int), s = rPoints_j2_E a0 i3_2 i5_8 i6_16 ∧ rPoints_j2 n a0 i3_2 i5_8 k_l1 i6_16 = some r
def rPoints_j1_E (a0 : List UInt8) (i3_2 : Int) (i5_8 : Int) : S := ⟨[(0, kH 0), (3, kI i3_2), (4, kI (((a0.getD i3_2.toNat 0).toNat : Nat) : Int)), (5, kI i5_8), (6, kI 128), (7, kI 191)], [], [ob 5 a0]⟩
abbrev rPoints_j1_P (n : Nat) (a0 : List UInt8) (i3_2 : Int) (k_l1 : Int → Option (Bool)) (r : Bool) : S → Prop := fun s => ∃ (i5_8 : Int), s = rPoints_j1_E a0 i3_2 i5_8 ∧ rPoints_j1 n a0 i3_2 k_l1 i5_8 = some r
def rPoints_l1_E (a0 : List UInt8) (i3_2 : Int) : S := ⟨[(0, kH 0), (3, kI i3_2)], [], [ob 5 a0]⟩
abbrev rPoints_l1_P (n : Nat) (a0 : List UInt8) (r : Bool) (fu : Nat) : S → Prop := fun s => ∃ (i3_2 : Int), s = rPoints_l1_E a0 i3_2 ∧ rPoints_l1 n a0 fu i3_2 = some r
def rPoints_R (r : Bool) : S := ⟨[(2, kB r)], [], []⟩
def rPoints_ct (n : Nat) (r : Bool) : Ct := ctc (rB 5).rd fun _ l0 => ct0 fun H => ([rPoints n l0 = some r], shA H.length (kB r), shH H.length [])
theorem rPoints_ok (n : Nat) (r : Bool) : FnOk Try.prog Tr 73 (rPoints_ct n r) := by
 refine fnok Try.func73 ?_
 refine HO_c (rB 5) fun l0 _ => HO_0 tabO_oa (rPoints_R r) [.tmp 2] [] 97 Try.func73 fun w hG h => ?_
 unfold rPoints at h
 have hT := tabO_oa
 refine Vrs hT [0] ⟨[(0, kH 0)], [], [ob 5 l0]⟩ ?_
 refine Vrs hT [0] ⟨[(0, kH 0), (3, kI 0)], [], [ob 5 l0]⟩ ?_
 refine W_seq ?_
 refine W_block ?_
 refine Vc [] [0] (rPoints_l1_E l0 0) (W_lp ((rPoints_l1_P n l0 r)) n ⟨_, rfl, h⟩ ?_)
 rintro fu_l1 _ ⟨i3_2, rfl, h⟩
 cases fu_l1 with
 | zero => cases h
 | succ fu_l1 =>
  refine ⟨fu_l1, rfl, ?_⟩
  rw [rPoints_l1] at h
  refine W_seq ?_
  refine Vrs hT [0] ⟨[(0, kH 0), (3, kI i3_2), (13, kB (decide (i3_2 < ((l0.length : Nat) : Int))))], [], [ob 5 l0]⟩ ?_
  refine Vi ((decide (i3_2 < ((l0.length : Nat) : Int)))) (fun g51 => ?_) (fun g51 => ?_)
  ·replace h := bif_t h g51
   refine W_skip ?_
   refine W_block ?_
   obtain ⟨g1, g2, h⟩ := gd2 h
   refine Vgs hT fN [] [] [0] ⟨[(0, kH 0), (3, kI i3_2), (4, kI (((l0.getD i3_2.toNat 0).toNat : Nat) : Int))], [], [ob 5 l0]⟩ (aP g1 (aP g2 aN)) ?_
   refine Vrs hT [0] ⟨[(0, kH 0), (3, kI i3_2), (4, kI (((l0.getD i3_2.toNat 0).toNat : Nat) : Int))], [], [ob 5 l0]⟩ ?_
   refine Vrs hT [0] ⟨[(0, kH 0), (3, kI i3_2), (4, kI (((l0.getD i3_2.toNat 0).toNat : Nat) : Int)), (6, kI 128)], [], [ob 5 l0]⟩ ?_
   refine Vrs hT [0] ⟨[(0, kH 0), (3, kI i3_2), (4, kI (((l0.getD i3_2.toNat 0).toNat : Nat) : Int)), (6, kI 128), (7, kI 191)], [], [ob 5 l0]⟩ ?_
   refine W_join (rPoints_j1_P n l0 i3_2 (rPoints_l1 n l0 fu_l1) r) ?_ ?_
   ·rintro _ ⟨i5_8, rfl, h⟩
    unfold rPoints_j1 at h
    refine W_join (rPoints_j2_P n l0 i3_2 i5_8 (rPoints_l1 n l0 fu_l1) r) ?_ ?_
    ·rintro _ ⟨i6_16, rfl, h⟩
     unfold rPoints_j2 at h
     refine W_join (rPoints_j3_P n l0 i3_2 i5_8 i6_16 (rPoints_l1 n l0 fu_l1) r) ?_ ?_
     ·rintro _ ⟨i7_16, rfl, h⟩
      unfold rPoints_j3 at h
      refine W_join (rPoints_j4_P n l0 i3_2 i5_8 i7_16 (rPoints_l1 n l0 fu_l1) r) ?_ ?_
      ·rintro _ ⟨i6_17, rfl, h⟩
       unfold rPoints_j4 at h
       refine W_join (rPoints_j5_P n l0 i3_2 i5_8 i6_17 (rPoints_l1 n l0 fu_l1) r) ?_ ?_
       ·rintro _ ⟨i7_17, rfl, h⟩
        unfold rPoints_j5 at h
        refine W_seq ?_
        obtain ⟨g3, h⟩ := gd_some h
        refine Vgs hT fN [] [] [0] ⟨[(0, kH 0), (3, kI i3_2), (5, kI i5_8), (6, kI i6_17), (7, kI i7_17), (56, kB (decide (((l0.length : Nat) : Int) ≤ (i3_2 + i5_8))))], [], [ob 5 l0]⟩ (aP g3 aN) ?_
        refine Vi ((decide (((l0.length : Nat) : Int) ≤ (i3_2 + i5_8)))) (fun g31 => ?_) (fun g31 => ?_)
        ·replace h := bif_t h g31
         refine Vrs hT [] ⟨[(2, kB false)], [], []⟩ ?_
         refine Vc [] [] (rPoints_R false) (W_ret ?_)
         exact ⟨.inl rfl, by cases h; rfl⟩
        ·replace h := bif_f h g31
         refine Vc [] [0] ⟨[(0, kH 0), (3, kI i3_2), (5, kI i5_8), (6, kI i6_17), (7, kI i7_17)], [], [ob 5 l0]⟩ (W_skip ?_)
         refine W_seq ?_
         refine W_seq ?_
         rcases Bool.eq_false_or_eq_true (decide ((0 : Int) < i5_8)) with g4 | g4
         ·replace h := bif_t h g4
          obtain ⟨g5, g6, g7, h⟩ := gd3 h
          rcases Bool.eq_false_or_eq_true (decide ((((l0.getD ((i3_2 + 1).toNat) 0).toNat : Nat) : Int) < i6_17)) with g8 | g8
          ·replace h := bif_t h g8
           refine Vg hT fN [(2, true), (11, true)] [] [0] ⟨[(0, kH 0), (3, kI i3_2), (5, kI i5_8), (78, kB true)], [], [ob 5 l0]⟩ (aP g4 (aP g5 (aP g6 (aP g7 (aP g8 aN))))) ?_
           refine Vi (true) (fun _ => ?_) (fun hb => by cases hb)
           refine Vrs hT [] ⟨[(2, kB false)], [], []⟩ ?_
           refine Vc [] [] (rPoints_R false) (W_ret ?_)
           exact ⟨.inl rfl, by cases h; rfl⟩
          ·replace h := bif_f h g8
           obtain ⟨g9, g10, g11, h⟩ := gd3 h
           refine Vg hT fN [(2, true), (11, false)] [] [0] ⟨[(0, kH 0), (3, kI i3_2), (5, kI i5_8), (78, kB (decide (i7_17 < (((l0.getD ((i3_2 + 1).toNat) 0).toNat : Nat) : Int))))], [], [ob 5 l0]⟩ (aP g4 (aP g5 (aP g6 (aP g7 (aP g8 (aP g9 (aP g10 (aP g11 aN)))))))) ?_
           refine Vi ((decide (i7_17 < (((l0.getD ((i3_2 + 1).toNat) 0).toNat : Nat) : Int)))) (fun g21 => ?_) (fun g21 => ?_)
           ·replace h := bif_t h g21
            refine Vrs hT [] ⟨[(2, kB false)], [], []⟩ ?_
            refine Vc [] [] (rPoints_R false) (W_ret ?_)
            exact ⟨.inl rfl, by cases h; rfl⟩
           ·replace h := bif_f h g21
            refine W_skip ?_
            refine W_seq ?_
            refine Vrs hT [0] ⟨[(0, kH 0), (3, kI i3_2), (5, kI i5_8), (8, kI 2)], [], [ob 5 l0]⟩ ?_
            refine W_block ?_
            refine Vc [] [0] (rPoints_l2_E l0 i3_2 i5_8 2) (W_lp ((rPoints_l2_P n l0 i3_2 i5_8 (rPoints_l1 n l0 fu_l1) r)) n ⟨_, rfl, h⟩ ?_)
            rintro fu_l2 _ ⟨i8_16, rfl, h⟩
            cases fu_l2 with
            | zero => cases h
            | succ fu_l2 =>
             refine ⟨fu_l2, rfl, ?_⟩
             rw [rPoints_l2] at h
             refine W_seq ?_
             refine Vrs hT [0] ⟨[(0, kH 0), (3, kI i3_2), (5, kI i5_8), (8, kI i8_16), (81, kB (decide (i8_16 ≤ i5_8)))], [], [ob 5 l0]⟩ ?_
             refine Vi ((decide (i8_16 ≤ i5_8))) (fun g20 => ?_) (fun g20 => ?_)
             ·replace h := bif_t h g20
              refine W_skip ?_
              refine W_seq ?_
              refine W_block ?_
              obtain ⟨g12, g13, g14, h⟩ := gd3 h
              obtain ⟨r90_20, g15, h⟩ := bind_some' h
              refine Vgs hT (fT 6 (rlater_ok n r90_20) fN) [] [] [0] ⟨[(0, kH 0), (3, kI i3_2), (5, kI i5_8), (8, kI i8_16), (9, kB r90_20)], [], [ob 5 l0]⟩ (aP g12 (aP g13 (aP g14 (aP g15 aN)))) ?_
              refine Vrs hT [0] ⟨[(0, kH 0), (3, kI i3_2), (5, kI i5_8), (8, kI i8_16), (92, kB (!r90_20))], [], [ob 5 l0]⟩ ?_
              refine Vi ((!r90_20)) (fun g17 => ?_) (fun g17 => ?_)
              ·replace h := bif_t h g17
               refine Vrs hT [] ⟨[(2, kB false)], [], []⟩ ?_
               refine Vc [] [] (rPoints_R false) (W_ret ?_)
               exact ⟨.inl rfl, by cases h; rfl⟩
              ·replace h := bif_f h g17
               refine W_skip ?_
               obtain ⟨g16, h⟩ := gd_some h
               refine Vg hT fN [] [] [0] (rPoints_l2_E l0 i3_2 i5_8 (i8_16 + 1)) (aP g16 aN) ?_
               exact ⟨_, rfl, h⟩
             ·replace h := bif_f h g20
              refine Vc [] [0] ⟨[(0, kH 0), (3, kI i3_2), (5, kI i5_8)], [], [ob 5 l0]⟩ (W_exit ?_)
              obtain ⟨g18, g19, h⟩ := gd2 h
              refine Vg hT fN [] [] [0] (rPoints_l1_E l0 ((i3_2 + 1) + i5_8)) (aP g18 (aP g19 aN)) ?_
              exact ⟨_, rfl, h⟩
         ·replace h := bif_f h g4
          refine Vg hT fN [(2, false)] [] [0] ⟨[(0, kH 0), (3, kI i3_2), (5, kI i5_8), (78, kB false)], [], [ob 5 l0]⟩ (aP g4 aN) ?_
          refine Vi (false) (fun hb => by cases hb) (fun _ => ?_)
          refine W_skip ?_
          refine W_seq ?_
          refine Vrs hT [0] ⟨[(0, kH 0), (3, kI i3_2), (5, kI i5_8), (8, kI 2)], [], [ob 5 l0]⟩ ?_
          refine W_block ?_
          refine Vc [] [0] (rPoints_l3_E l0 i3_2 i5_8 2) (W_lp ((rPoints_l3_P n l0 i3_2 i5_8 (rPoints_l1 n l0 fu_l1) r)) n ⟨_, rfl, h⟩ ?_)
          rintro fu_l3 _ ⟨i8_17, rfl, h⟩
          cases fu_l3 with
          | zero => cases h
          | succ fu_l3 =>
           refine ⟨fu_l3, rfl, ?_⟩
           rw [rPoints_l3] at h
           refine W_seq ?_
           refine Vrs hT [0] ⟨[(0, kH 0), (3, kI i3_2), (5, kI i5_8), (8, kI i8_17), (81, kB (decide (i8_17 ≤ i5_8)))], [], [ob 5 l0]⟩ ?_
           refine Vi ((decide (i8_17 ≤ i5_8))) (fun g30 => ?_) (fun g30 => ?_)
           ·replace h := bif_t h g30
            refine W_skip ?_
            refine W_seq ?_
            refine W_block ?_
            obtain ⟨g22, g23, g24, h⟩ := gd3 h
            obtain ⟨r90_21, g25, h⟩ := bind_some' h
            refine Vgs hT (fT 6 (rlater_ok n r90_21) fN) [] [] [0] ⟨[(0, kH 0), (3, kI i3_2), (5, kI i5_8), (8, kI i8_17), (9, kB r90_21)], [], [ob 5 l0]⟩ (aP g22 (aP g23 (aP g24 (aP g25 aN)))) ?_
            refine Vrs hT [0] ⟨[(0, kH 0), (3, kI i3_2), (5, kI i5_8), (8, kI i8_17), (92, kB (!r90_21))], [], [ob 5 l0]⟩ ?_
            refine Vi ((!r90_21)) (fun g27 => ?_) (fun g27 => ?_)
            ·replace h := bif_t h g27
             refine Vrs hT [] ⟨[(2, kB false)], [], []⟩ ?_
             refine Vc [] [] (rPoints_R false) (W_ret ?_)
             exact ⟨.inl rfl, by cases h; rfl⟩
            ·replace h := bif_f h g27
             refine W_skip ?_
             obtain ⟨g26, h⟩ := gd_some h
             refine Vg hT fN [] [] [0] (rPoints_l3_E l0 i3_2 i5_8 (i8_17 + 1)) (aP g26 aN) ?_
             exact ⟨_, rfl, h⟩
           ·replace h := bif_f h g30
            refine Vc [] [0] ⟨[(0, kH 0), (3, kI i3_2), (5, kI i5_8)], [], [ob 5 l0]⟩ (W_exit ?_)
            obtain ⟨g28, g29, h⟩ := gd2 h
            refine Vg hT fN [] [] [0] (rPoints_l1_E l0 ((i3_2 + 1) + i5_8)) (aP g28 (aP g29 aN)) ?_
            exact ⟨_, rfl, h⟩
       ·refine W_seq ?_
        refine Vr hT [0] ⟨[(0, kH 0), (3, kI i3_2), (5, kI i5_8), (6, kI i6_17), (7, kI i7_16), (50, kB ((((l0.getD i3_2.toNat 0).toNat : Nat) : Int) == 244))], [], [ob 5 l0]⟩ ?_
        refine Vi (((((l0.getD i3_2.toNat 0).toNat : Nat) : Int) == 244)) (fun g32 => ?_) (fun g32 => ?_)
        ·replace h := bif_t h g32
         refine Vr hT [0] (rPoints_j5_E l0 i3_2 i5_8 i6_17 143) ?_
         exact ⟨_, rfl, h⟩
        ·replace h := bif_f h g32
         refine Vc [] [0] (rPoints_j5_E l0 i3_2 i5_8 i6_17 i7_16) (W_skip ?_)
         exact ⟨_, rfl, h⟩
      ·refine W_seq ?_
       refine Vr hT [0] ⟨[(0, kH 0), (3, kI i3_2), (4, kI (((l0.getD i3_2.toNat 0).toNat : Nat) : Int)), (5, kI i5_8), (6, kI i6_16), (7, kI i7_16), (48, kB ((((l0.getD i3_2.toNat 0).toNat : Nat) : Int) == 240))], [], [ob 5 l0]⟩ ?_
       refine Vi (((((l0.getD i3_2.toNat 0).toNat : Nat) : Int) == 240)) (fun g33 => ?_) (fun g33 => ?_)
       ·replace h := bif_t h g33
        refine Vr hT [0] (rPoints_j4_E l0 i3_2 i5_8 i7_16 144) ?_
        exact ⟨_, rfl, h⟩
       ·replace h := bif_f h g33
        refine Vc [] [0] (rPoints_j4_E l0 i3_2 i5_8 i7_16 i6_16) (W_skip ?_)
        exact ⟨_, rfl, h⟩
     ·refine W_seq ?_
      refine Vr hT [0] ⟨[(0, kH 0), (3, kI i3_2), (4, kI (((l0.getD i3_2.toNat 0).toNat : Nat) : Int)), (5, kI i5_8), (6, kI i6_16), (7, kI 191), (46, kB ((((l0.getD i3_2.toNat 0).toNat : Nat) : Int) == 237))], [], [ob 5 l0]⟩ ?_
      refine Vi (((((l0.getD i3_2.toNat 0).toNat : Nat) : Int) == 237)) (fun g34 => ?_) (fun g34 => ?_)
      ·replace h := bif_t h g34
       refine Vr hT [0] (rPoints_j3_E l0 i3_2 i5_8 i6_16 159) ?_
       exact ⟨_, rfl, h⟩
      ·replace h := bif_f h g34
       refine Vc [] [0] (rPoints_j3_E l0 i3_2 i5_8 i6_16 191) (W_skip ?_)
       exact ⟨_, rfl, h⟩
    ·refine W_seq ?_
     refine Vr hT [0] ⟨[(0, kH 0), (3, kI i3_2), (4, kI (((l0.getD i3_2.toNat 0).toNat : Nat) : Int)), (5, kI i5_8), (6, kI 128), (7, kI 191), (44, kB ((((l0.getD i3_2.toNat 0).toNat : Nat) : Int) == 224))], [], [ob 5 l0]⟩ ?_
     refine Vi (((((l0.getD i3_2.toNat 0).toNat : Nat) : Int) == 224)) (fun g35 => ?_) (fun g35 => ?_)
     ·replace h := bif_t h g35
      refine Vr hT [0] (rPoints_j2_E l0 i3_2 i5_8 160) ?_
      exact ⟨_, rfl, h⟩
     ·replace h := bif_f h g35
      refine Vc [] [0] (rPoints_j2_E l0 i3_2 i5_8 128) (W_skip ?_)
      exact ⟨_, rfl, h⟩
   ·refine W_block ?_
    refine Vrs hT [0] ⟨[(0, kH 0), (3, kI i3_2), (4, kI (((l0.getD i3_2.toNat 0).toNat : Nat) : Int)), (6, kI 128), (7, kI 191), (19, kB (decide ((((l0.getD i3_2.toNat 0).toNat : Nat) : Int) < (128 : Int))))], [], [ob 5 l0]⟩ ?_
    refine Vi ((decide ((((l0.getD i3_2.toNat 0).toNat : Nat) : Int) < (128 : Int)))) (fun g50 => ?_) (fun g50 => ?_)
    ·replace h := bif_t h g50
     refine Vr hT [0] (rPoints_j1_E l0 i3_2 0) ?_
     exact ⟨_, rfl, h⟩
    ·replace h := bif_f h g50
     refine W_seq ?_
     rcases Bool.eq_false_or_eq_true (decide ((194 : Int) ≤ (((l0.getD i3_2.toNat 0).toNat : Nat) : Int))) with g36 | g36
     ·replace h := bif_t h g36
      refine Vg hT fN [(2, true)] [] [0] ⟨[(0, kH 0), (3, kI i3_2), (4, kI (((l0.getD i3_2.toNat 0).toNat : Nat) : Int)), (6, kI 128), (7, kI 191), (22, kB (decide ((((l0.getD i3_2.toNat 0).toNat : Nat) : Int) ≤ (223 : Int))))], [], [ob 5 l0]⟩ (aP g36 aN) ?_
      refine Vi ((decide ((((l0.getD i3_2.toNat 0).toNat : Nat) : Int) ≤ (223 : Int)))) (fun g43 => ?_) (fun g43 => ?_)
      ·replace h := bif_t h g43
       refine Vr hT [0] (rPoints_j1_E l0 i3_2 1) ?_
       exact ⟨_, rfl, h⟩
      ·replace h := bif_f h g43
       refine W_seq ?_
       rcases Bool.eq_false_or_eq_true (decide ((224 : Int) ≤ (((l0.getD i3_2.toNat 0).toNat : Nat) : Int))) with g37 | g37
       ·replace h := bif_t h g37
        refine Vg hT fN [(2, true)] [] [0] ⟨[(0, kH 0), (3, kI i3_2), (4, kI (((l0.getD i3_2.toNat 0).toNat : Nat) : Int)), (6, kI 128), (7, kI 191), (29, kB (decide ((((l0.getD i3_2.toNat 0).toNat : Nat) : Int) ≤ (239 : Int))))], [], [ob 5 l0]⟩ (aP g37 aN) ?_
        refine Vi ((decide ((((l0.getD i3_2.toNat 0).toNat : Nat) : Int) ≤ (239 : Int)))) (fun g40 => ?_) (fun g40 => ?_)
        ·replace h := bif_t h g40
         refine Vr hT [0] (rPoints_j1_E l0 i3_2 2) ?_
         exact ⟨_, rfl, h⟩
        ·replace h := bif_f h g40
         refine W_seq ?_
         rcases Bool.eq_false_or_eq_true (decide ((240 : Int) ≤ (((l0.getD i3_2.toNat 0).toNat : Nat) : Int))) with g38 | g38
         ·replace h := bif_t h g38
          refine Vg hT fN [(2, true)] [] [0] ⟨[(0, kH 0), (3, kI i3_2), (4, kI (((l0.getD i3_2.toNat 0).toNat : Nat) : Int)), (6, kI 128), (7, kI 191), (36, kB (decide ((((l0.getD i3_2.toNat 0).toNat : Nat) : Int) ≤ (244 : Int))))], [], [ob 5 l0]⟩ (aP g38 aN) ?_
          refine Vi ((decide ((((l0.getD i3_2.toNat 0).toNat : Nat) : Int) ≤ (244 : Int)))) (fun g39 => ?_) (fun g39 => ?_)
          ·replace h := bif_t h g39
           refine Vr hT [0] (rPoints_j1_E l0 i3_2 3) ?_
           exact ⟨_, rfl, h⟩
          ·replace h := bif_f h g39
           refine Vrs hT [] ⟨[(2, kB false)], [], []⟩ ?_
           refine Vc [] [] (rPoints_R false) (W_ret ?_)
           exact ⟨.inl rfl, by cases h; rfl⟩
         ·replace h := bif_f h g38
          refine Vg hT fN [(2, false)] [] [0] ⟨[(0, kH 0), (3, kI i3_2), (4, kI (((l0.getD i3_2.toNat 0).toNat : Nat) : Int)), (6, kI 128), (7, kI 191), (36, kB false)], [], [ob 5 l0]⟩ (aP g38 aN) ?_
          refine Vi (false) (fun hb => by cases hb) (fun _ => ?_)
          refine Vrs hT [] ⟨[(2, kB false)], [], []⟩ ?_
          refine Vc [] [] (rPoints_R false) (W_ret ?_)
          exact ⟨.inl rfl, by cases h; rfl⟩
       ·replace h := bif_f h g37
        refine Vg hT fN [(2, false)] [] [0] ⟨[(0, kH 0), (3, kI i3_2), (4, kI (((l0.getD i3_2.toNat 0).toNat : Nat) : Int)), (6, kI 128), (7, kI 191), (29, kB false)], [], [ob 5 l0]⟩ (aP g37 aN) ?_
        refine Vi (false) (fun hb => by cases hb) (fun _ => ?_)
        refine W_seq ?_
        rcases Bool.eq_false_or_eq_true (decide ((240 : Int) ≤ (((l0.getD i3_2.toNat 0).toNat : Nat) : Int))) with g41 | g41
        ·replace h := bif_t h g41
         refine Vg hT fN [(2, true)] [] [0] ⟨[(0, kH 0), (3, kI i3_2), (4, kI (((l0.getD i3_2.toNat 0).toNat : Nat) : Int)), (6, kI 128), (7, kI 191), (36, kB (decide ((((l0.getD i3_2.toNat 0).toNat : Nat) : Int) ≤ (244 : Int))))], [], [ob 5 l0]⟩ (aP g41 aN) ?_
         refine Vi ((decide ((((l0.getD i3_2.toNat 0).toNat : Nat) : Int) ≤ (244 : Int)))) (fun g42 => ?_) (fun g42 => ?_)
         ·replace h := bif_t h g42
          refine Vr hT [0] (rPoints_j1_E l0 i3_2 3) ?_
          exact ⟨_, rfl, h⟩
         ·replace h := bif_f h g42
          refine Vrs hT [] ⟨[(2, kB false)], [], []⟩ ?_
          refine Vc [] [] (rPoints_R false) (W_ret ?_)
          exact ⟨.inl rfl, by cases h; rfl⟩
        ·replace h := bif_f h g41
         refine Vg hT fN [(2, false)] [] [0] ⟨[(0, kH 0), (3, kI i3_2), (4, kI (((l0.getD i3_2.toNat 0).toNat : Nat) : Int)), (6, kI 128), (7, kI 191), (36, kB false)], [], [ob 5 l0]⟩ (aP g41 aN) ?_
         refine Vi (false) (fun hb => by cases hb) (fun _ => ?_)
         refine Vrs hT [] ⟨[(2, kB false)], [], []⟩ ?_
         refine Vc [] [] (rPoints_R false) (W_ret ?_)
         exact ⟨.inl rfl, by cases h; rfl⟩
     ·replace h := bif_f h g36
      refine Vg hT fN [(2, false)] [] [0] ⟨[(0, kH 0), (3, kI i3_2), (4, kI (((l0.getD i3_2.toNat 0).toNat : Nat) : Int)), (6, kI 128), (7, kI 191), (22, kB false)], [], [ob 5 l0]⟩ (aP g36 aN) ?_
      refine Vi (false) (fun hb => by cases hb) (fun _ => ?_)
      refine W_seq ?_
      rcases Bool.eq_false_or_eq_true (decide ((224 : Int) ≤ (((l0.getD i3_2.toNat 0).toNat : Nat) : Int))) with g44 | g44
      ·replace h := bif_t h g44
       refine Vg hT fN [(2, true)] [] [0] ⟨[(0, kH 0), (3, kI i3_2), (4, kI (((l0.getD i3_2.toNat 0).toNat : Nat) : Int)), (6, kI 128), (7, kI 191), (29, kB (decide ((((l0.getD i3_2.toNat 0).toNat : Nat) : Int) ≤ (239 : Int))))], [], [ob 5 l0]⟩ (aP g44 aN) ?_
       refine Vi ((decide ((((l0.getD i3_2.toNat 0).toNat : Nat) : Int) ≤ (239 : Int)))) (fun g47 => ?_) (fun g47 => ?_)
       ·replace h := bif_t h g47
        refine Vr hT [0] (rPoints_j1_E l0 i3_2 2) ?_
        exact ⟨_, rfl, h⟩
       ·replace h := bif_f h g47
        refine W_seq ?_
        rcases Bool.eq_false_or_eq_true (decide ((240 : Int) ≤ (((l0.getD i3_2.toNat 0).toNat : Nat) : Int))) with g45 | g45
        ·replace h := bif_t h g45
         refine Vg hT fN [(2, true)] [] [0] ⟨[(0, kH 0), (3, kI i3_2), (4, kI (((l0.getD i3_2.toNat 0).toNat : Nat) : Int)), (6, kI 128), (7, kI 191), (36, kB (decide ((((l0.getD i3_2.toNat 0).toNat : Nat) : Int) ≤ (244 : Int))))], [], [ob 5 l0]⟩ (aP g45 aN) ?_
         refine Vi ((decide ((((l0.getD i3_2.toNat 0).toNat : Nat) : Int) ≤ (244 : Int)))) (fun g46 => ?_) (fun g46 => ?_)
         ·replace h := bif_t h g46
          refine Vr hT [0] (rPoints_j1_E l0 i3_2 3) ?_
          exact ⟨_, rfl, h⟩
         ·replace h := bif_f h g46
          refine Vrs hT [] ⟨[(2, kB false)], [], []⟩ ?_
          refine Vc [] [] (rPoints_R false) (W_ret ?_)
          exact ⟨.inl rfl, by cases h; rfl⟩
        ·replace h := bif_f h g45
         refine Vg hT fN [(2, false)] [] [0] ⟨[(0, kH 0), (3, kI i3_2), (4, kI (((l0.getD i3_2.toNat 0).toNat : Nat) : Int)), (6, kI 128), (7, kI 191), (36, kB false)], [], [ob 5 l0]⟩ (aP g45 aN) ?_
         refine Vi (false) (fun hb => by cases hb) (fun _ => ?_)
         refine Vrs hT [] ⟨[(2, kB false)], [], []⟩ ?_
         refine Vc [] [] (rPoints_R false) (W_ret ?_)
         exact ⟨.inl rfl, by cases h; rfl⟩
      ·replace h := bif_f h g44
       refine Vg hT fN [(2, false)] [] [0] ⟨[(0, kH 0), (3, kI i3_2), (4, kI (((l0.getD i3_2.toNat 0).toNat : Nat) : Int)), (6, kI 128), (7, kI 191), (29, kB false)], [], [ob 5 l0]⟩ (aP g44 aN) ?_
       refine Vi (false) (fun hb => by cases hb) (fun _ => ?_)
       refine W_seq ?_
       rcases Bool.eq_false_or_eq_true (decide ((240 : Int) ≤ (((l0.getD i3_2.toNat 0).toNat : Nat) : Int))) with g48 | g48
       ·replace h := bif_t h g48
        refine Vg hT fN [(2, true)] [] [0] ⟨[(0, kH 0), (3, kI i3_2), (4, kI (((l0.getD i3_2.toNat 0).toNat : Nat) : Int)), (6, kI 128), (7, kI 191), (36, kB (decide ((((l0.getD i3_2.toNat 0).toNat : Nat) : Int) ≤ (244 : Int))))], [], [ob 5 l0]⟩ (aP g48 aN) ?_
        refine Vi ((decide ((((l0.getD i3_2.toNat 0).toNat : Nat) : Int) ≤ (244 : Int)))) (fun g49 => ?_) (fun g49 => ?_)
        ·replace h := bif_t h g49
         refine Vr hT [0] (rPoints_j1_E l0 i3_2 3) ?_
         exact ⟨_, rfl, h⟩
        ·replace h := bif_f h g49
         refine Vrs hT [] ⟨[(2, kB false)], [], []⟩ ?_
         refine Vc [] [] (rPoints_R false) (W_ret ?_)
         exact ⟨.inl rfl, by cases h; rfl⟩
       ·replace h := bif_f h g48
        refine Vg hT fN [(2, false)] [] [0] ⟨[(0, kH 0), (3, kI i3_2), (4, kI (((l0.getD i3_2.toNat 0).toNat : Nat) : Int)), (6, kI 128), (7, kI 191), (36, kB false)], [], [ob 5 l0]⟩ (aP g48 aN) ?_
        refine Vi (false) (fun hb => by cases hb) (fun _ => ?_)
        refine Vrs hT [] ⟨[(2, kB false)], [], []⟩ ?_
        refine Vc [] [] (rPoints_R false) (W_ret ?_)
        exact ⟨.inl rfl, by cases h; rfl⟩
  ·replace h := bif_f h g51
   refine Vc [] [] ⟨[], [], []⟩ (W_exit ?_)
   refine Vrs hT [] ⟨[(2, kB true)], [], []⟩ ?_
   refine Vc [] [] (rPoints_R true) (W_ret ?_)
   exact ⟨.inl rfl, by cases h; rfl⟩
def rText_j1_E (a0 : UInt8) (a1 : List UInt8) (i5_2 : Int) : S := ⟨[(0, kU a0), (1, kH 0), (5, kI i5_2)], [], [ob 5 a1]⟩
abbrev rText_j1_P (n : Nat) (a0 : UInt8) (a1 : List UInt8) (i5_2 : Int) (k_l1 : Int → Option (Bool)) (r : Bool) : S → Prop := fun s => s = rText_j1_E a0 a1 i5_2 ∧ rText_j1 n a0 a1 i5_2 k_l1 = some r
def rText_l2_E (a0 : UInt8) (a1 : List UInt8) (i5_2 : Int) (i9_187 : Int) : S := ⟨[(0, kU a0), (1, kH 0), (5, kI i5_2), (6, kU (a1.getD i5_2.toNat 0)), (7, kB true), (8, kH 1), (9, kI i9_187)], [], [ob 5 a1, nb 5 [32, 39, 40, 41, 43, 44, 45, 46, 47, 58, 61, 63]]⟩
abbrev rText_l2_P (n : Nat) (a0 : UInt8) (a1 : List UInt8) (i5_2 : Int) (k_l1 : Int → Option (Bool)) (r : Bool) (fu : Nat) : S → Prop := fun s => ∃ (i9_187 : Int), s = rText_l2_E a0 a1 i5_2 i9_187 ∧ rText_l2 n a0 a1 i5_2 k_l1 fu i9_187 = some r
def rText_l3_E (a0 : UInt8) (a1 : List UInt8) (i5_2 : Int) (i9_188 : Int) : S := ⟨[(0, kU a0), (1, kH 0), (5, kI i5_2), (6, kU (a1.getD i5_2.toNat 0)), (7, kB true), (8, kH 1), (9, kI i9_188)], [], [ob 5 a1, nb 5 [32, 39, 40, 41, 43, 44, 45, 46, 47, 58, 61, 63]]⟩
abbrev rText_l3_P (n : Nat) (a0 : UInt8) (a1 : List UInt8) (i5_2 : Int) (k_l1 : Int → Option (Bool)) (r : Bool) (fu : Nat) : S → Prop := fun s => ∃ (i9_188 : Int), s = rText_l3_E a0 a1 i5_2 i9_188 ∧ rText_l3 n a0 a1 i5_2 k_l1 fu i9_188 = some r
def rText_l4_E (a0 : UInt8) (a1 : List UInt8) (i5_2 : Int) (p7_136 : Bool) (i9_189 : Int) : S := ⟨[(0, kU a0), (1, kH 0), (5, kI i5_2), (6, kU (a1.getD i5_2.toNat 0)), (7, kB p7_136), (8, kH 1), (9, kI i9_189)], [], [ob 5 a1, nb 5 [32, 39, 40, 41, 43, 44, 45, 46, 47, 58, 61, 63]]⟩
abbrev rText_l4_P (n : Nat) (a0 : UInt8) (a1 : List UInt8) (i5_2 : Int) (k_l1 : Int → Option (Bool)) (r : Bool) (fu : Nat) : S → Prop := fun s => ∃ (p7_136 : Bool), ∃ (i9_189 : Int), s = rText_l4_E a0 a1 i5_2 p7_136 i9_189 ∧ rText_l4 n a0 a1 i5_2 k_l1 fu p7_136 i9_189 = some r
def rText_l5_E (a0 : UInt8) (a1 : List UInt8) (i5_2 : Int) (p7_137 : Bool) (i9_190 : Int) : S := ⟨[(0, kU a0), (1, kH 0), (5, kI i5_2), (6, kU (a1.getD i5_2.toNat 0)), (7, kB p7_137), (8, kH 1), (9, kI i9_190)], [], [ob 5 a1, nb 5 [32, 39, 40, 41, 43, 44, 45, 46, 47, 58, 61, 63]]⟩
abbrev rText_l5_P (n : Nat) (a0 : UInt8) (a1 : List UInt8) (i5_2 : Int) (k_l1 : Int → Option (Bool)) (r : Bool) (fu : Nat) : S → Prop := fun s => ∃ (p7_137 : Bool), ∃ (i9_190 : Int), s = rText_l5_E a0 a1 i5_2 p7_137 i9_190 ∧ rText_l5 n a0 a1 i5_2 k_l1 fu p7_137 i9_190 = some r
def rText_l6_E (a0 : UInt8) (a1 : List UInt8) (i5_2 : Int) (p7_138 : Bool) (i9_191 : Int) : S := ⟨[(0, kU a0), (1, kH 0), (5, kI i5_2), (6, kU (a1.getD i5_2.toNat 0)), (7, kB p7_138), (8, kH 1), (9, kI i9_191)], [], [ob 5 a1, nb 5 [32, 39, 40, 41, 43, 44, 45, 46, 47, 58, 61, 63]]⟩
abbrev rText_l6_P (n : Nat) (a0 : UInt8) (a1 : List UInt8) (i5_2 : Int) (k_l1 : Int → Option (Bool)) (r : Bool) (fu : Nat) : S → Prop := fun s => ∃ (p7_138 : Bool), ∃ (i9_191 : Int), s = rText_l6_E a0 a1 i5_2 p7_138 i9_191 ∧ rText_l6 n a0 a1 i5_2 k_l1 fu p7_138 i9_191 = some r
def rText_l7_E (a0 : UInt8) (a1 : List UInt8) (i5_2 : Int) (p7_139 : Bool) (i9_192 : Int) : S := ⟨[(0, kU a0), (1, kH 0), (5, kI i5_2), (6, kU (a1.getD i5_2.toNat 0)), (7, kB p7_139), (8, kH 1), (9, kI i9_192)], [], [ob 5 a1, nb 5 [32, 39, 40, 41, 43, 44, 45, 46, 47, 58, 61, 63]]⟩
abbrev rText_l7_P (n : Nat) (a0 : UInt8) (a1 : List UInt8) (i5_2 : Int) (k_l1 : Int → Option (Bool)) (r : Bool) (fu : Nat) : S → Prop := fun s => ∃ (p7_139 : Bool), ∃ (i9_192 : Int), s = rText_l7_E a0 a1 i5_2 p7_139 i9_192 ∧ rText_l7 n a0 a1 i5_2 k_l1 fu p7_139 i9_192 = some r
def rText_l8_E (a0 : UInt8) (a1 : List UInt8) (i5_2 : Int) (i9_193 : Int) : S := ⟨[(0, kU a0), (1, kH 0), (5, kI i5_2), (6, kU (a1.getD i5_2.toNat 0)), (7, kB true), (8, kH 1), (9, kI i9_193)], [], [ob 5 a1, nb 5 [32, 39, 40, 41, 43, 44, 45, 46, 47, 58, 61, 63]]⟩
abbrev rText_l8_P (n : Nat) (a0 : UInt8) (a1 : List UInt8) (i5_2 : Int) (k_l1 : Int → Option (Bool)) (r : Bool) (fu : Nat) : S → Prop := fun s => ∃ (i9_193 : Int), s = rText_l8_E a0 a1 i5_2 i9_193 ∧ rText_l8 n a0 a1 i5_2 k_l1 fu i9_193 = some r
def rText_l9_E (a0 : UInt8) (a1 : List UInt8) (i5_2 : Int) (p7_140 : Bool) (i9_194 : Int) : S := ⟨[(0, kU a0), (1, kH 0), (5, kI i5_2), (6, kU (a1.getD i5_2.toNat 0)), (7, kB p7_140), (8, kH 1), (9, kI i9_194)], [], [ob 5 a1, nb 5 [32, 39, 40, 41, 43, 44, 45, 46, 47, 58, 61, 63]]⟩
abbrev rText_l9_P (n : Nat) (a0 : UInt8) (a1 : List UInt8) (i5_2 : Int) (k_l1 : Int → Option (Bool)) (r : Bool) (fu : Nat) : S → Prop := fun s => ∃ (p7_140 : Bool), ∃ (i9_194 : Int), s = rText_l9_E a0 a1 i5_2 p7_140 i9_194 ∧ rText_l9 n a0 a1 i5_2 k_l1 fu p7_140 i9_194 = some r
def rText_l10_E (a0 : UInt8) (a1 : List UInt8) (i5_2 : Int) (p7_141 : Bool) (i9_195 : Int) : S := ⟨[(0, kU a0), (1, kH 0), (5, kI i5_2), (6, kU (a1.getD i5_2.toNat 0)), (7, kB p7_141), (8, kH 1), (9, kI i9_195)], [], [ob 5 a1, nb 5 [32, 39, 40, 41, 43, 44, 45, 46, 47, 58, 61, 63]]⟩
abbrev rText_l10_P (n : Nat) (a0 : UInt8) (a1 : List UInt8) (i5_2 : Int) (k_l1 : Int → Option (Bool)) (r : Bool) (fu : Nat) : S → Prop := fun s => ∃ (p7_141 : Bool), ∃ (i9_195 : Int), s = rText_l10_E a0 a1 i5_2 p7_141 i9_195 ∧ rText_l10 n a0 a1 i5_2 k_l1 fu p7_141 i9_195 = some r
def rText_l11_E (a0 : UInt8) (a1 : List UInt8) (i5_2 : Int) (p7_142 : Bool) (i9_196 : Int) : S := ⟨[(0, kU a0), (1, kH 0), (5, kI i5_2), (6, kU (a1.getD i5_2.toNat 0)), (7, kB p7_142), (8, kH 1), (9, kI i9_196)], [], [ob 5 a1, nb 5 [32, 39, 40, 41, 43, 44, 45, 46, 47, 58, 61, 63]]⟩
abbrev rText_l11_P (n : Nat) (a0 : UInt8) (a1 : List UInt8) (i5_2 : Int) (k_l1 : Int → Option (Bool)) (r : Bool) (fu : Nat) : S → Prop := fun s => ∃ (p7_142 : Bool), ∃ (i9_196 : Int), s = rText_l11_E a0 a1 i5_2 p7_142 i9_196 ∧ rText_l11 n a0 a1 i5_2 k_l1 fu p7_142 i9_196 = some r
def rText_l12_E (a0 : UInt8) (a1 : List UInt8) (i5_2 : Int) (p7_143 : Bool) (i9_197 : Int) : S := ⟨[(0, kU a0), (1, kH 0), (5, kI i5_2), (6, kU (a1.getD i5_2.toNat 0)), (7, kB p7_143), (8, kH 1), (9, kI i9_197)], [], [ob 5 a1, nb 5 [32, 39, 40, 41, 43, 44, 45, 46, 47, 58, 61, 63]]⟩
abbrev rText_l12_P (n : Nat) (a0 : UInt8) (a1 : List UInt8) (i5_2 : Int) (k_l1 : Int → Option (Bool)) (r : Bool) (fu : Nat) : S → Prop := fun s => ∃ (p7_143 : Bool), ∃ (i9_197 : Int), s = rText_l12_E a0 a1 i5_2 p7_143 i9_197 ∧ rText_l12 n a0 a1 i5_2 k_l1 fu p7_143 i9_197 = some r
def rText_l1_E (a0 : UInt8) (a1 : List UInt8) (i5_2 : Int) : S := ⟨[(0, kU a0), (1, kH 0), (5, kI i5_2)], [], [ob 5 a1]⟩
abbrev rText_l1_P (n : Nat) (a0 : UInt8) (a1 : List UInt8) (r : Bool) (fu : Nat) : S → Prop := fun s => ∃ (i5_2 : Int), s = rText_l1_E a0 a1 i5_2 ∧ rText_l1 n a0 a1 fu i5_2 = some r
def rText_R (r : Bool) : S := ⟨[(4, kB r)], [], []⟩
def rText_ct (n : Nat) (r : Bool) : Ct := ctc rU8.rd fun _ l0 => ctc (rB 5).rd fun _ l1 => ct0 fun H => ([rText n l0 l1 = some r], shA H.length (kB r), shH H.length [])
theorem rText_ok (n : Nat) (r : Bool) : FnOk Try.prog Tr 50 (rText_ct n r) := by
 refine fnok Try.func50 ?_
 refine HO_c rU8 fun l0 _ => HO_c (rB 5) fun l1 _ => HO_0 tabO_oa (rText_R r) [.tmp 4] [] 68 Try.func50 fun w hG h => ?_
 unfold rText at h
 have hT := tabO_oa
 refine Vrs hT [0] ⟨[(0, kU l0), (1, kH 0)], [], [ob 5 l1]⟩ ?_
 refine W_seq ?_
 refine Vrs hT [0] ⟨[(0, kU l0), (1, kH 0), (11, kB (l0 == 12))], [], [ob 5 l1]⟩ ?_
 refine Vi ((l0 == 12)) (fun g80 => ?_) (fun g80 => ?_)
 ·replace h := bif_t h g80
  obtain ⟨r13, g1, h⟩ := bind_some' h
  refine Vgs hT (fT 1 (rPoints_ok n r13) fN) [] [] [] ⟨[(4, kB r13)], [], []⟩ (aP g1 aN) ?_
  refine Vc [] [] (rText_R r13) (W_ret ?_)
  exact ⟨.inl rfl, by cases h; rfl⟩
 ·replace h := bif_f h g80
  refine W_skip ?_
  refine W_seq ?_
  refine Vrs hT [0] ⟨[(0, kU l0), (1, kH 0), (5, kI 0)], [], [ob 5 l1]⟩ ?_
  refine W_block ?_
  refine Vc [] [0] (rText_l1_E l0 l1 0) (W_lp ((rText_l1_P n l0 l1 r)) n ⟨_, rfl, h⟩ ?_)
  rintro fu_l1 _ ⟨i5_2, rfl, h⟩
  cases fu_l1 with
  | zero => cases h
  | succ fu_l1 =>
   refine ⟨fu_l1, rfl, ?_⟩
   rw [rText_l1] at h
   refine W_seq ?_
   refine Vrs hT [0] ⟨[(0, kU l0), (1, kH 0), (5, kI i5_2), (17, kB (decide (i5_2 < ((l1.length : Nat) : Int))))], [], [ob 5 l1]⟩ ?_
   refine Vi ((decide (i5_2 < ((l1.length : Nat) : Int)))) (fun g79 => ?_) (fun g79 => ?_)
   ·replace h := bif_t h g79
    refine Vc [] [0] ⟨[(0, kU l0), (1, kH 0), (5, kI i5_2)], [], [ob 5 l1]⟩ (W_skip ?_)
    refine W_join (rText_j1_P n l0 l1 i5_2 (rText_l1 n l0 l1 fu_l1) r) ?_ ?_
    ·rintro _ ⟨rfl, h⟩
     unfold rText_j1 at h
     obtain ⟨g2, h⟩ := gd_some h
     refine Vg hT fN [] [] [0] (rText_l1_E l0 l1 (i5_2 + 1)) (aP g2 aN) ?_
     exact ⟨_, rfl, h⟩
    ·refine W_block ?_
     obtain ⟨g3, g4, h⟩ := gd2 h
     refine Vgs hT fN [] [] [0] ⟨[(0, kU l0), (1, kH 0), (5, kI i5_2), (6, kU (l1.getD i5_2.toNat 0))], [], [ob 5 l1]⟩ (aP g3 (aP g4 aN)) ?_
     refine W_seq ?_
     refine Vrs hT [0] ⟨[(0, kU l0), (1, kH 0), (5, kI i5_2), (6, kU (l1.getD i5_2.toNat 0)), (25, kB (decide ((128 : UInt8) ≤ (l1.getD i5_2.toNat 0))))], [], [ob 5 l1]⟩ ?_
     refine Vi ((decide ((128 : UInt8) ≤ (l1.getD i5_2.toNat 0)))) (fun g78 => ?_) (fun g78 => ?_)
     ·replace h := bif_t h g78
      refine Vrs hT [] ⟨[(4, kB false)], [], []⟩ ?_
      refine Vc [] [] (rText_R false) (W_ret ?_)
      exact ⟨.inl rfl, by cases h; rfl⟩
     ·replace h := bif_f h g78
      refine W_skip ?_
      refine Vrs hT [0] ⟨[(0, kU l0), (1, kH 0), (5, kI i5_2), (6, kU (l1.getD i5_2.toNat 0)), (27, kB (l0 == 19))], [], [ob 5 l1]⟩ ?_
      refine Vi ((l0 == 19)) (fun g77 => ?_) (fun g77 => ?_)
      ·replace h := bif_t h g77
       refine W_seq ?_
       rcases Bool.eq_false_or_eq_true (decide ((97 : UInt8) ≤ (l1.getD i5_2.toNat 0))) with g5 | g5
       ·replace h := bif_t h g5
        rcases Bool.eq_false_or_eq_true (decide ((l1.getD i5_2.toNat 0) ≤ (122 : UInt8))) with g6 | g6
        ·replace h := bif_t h g6
         refine Vg hT fN [(2, true), (6, true)] [] [0] ⟨[(0, kU l0), (1, kH 0), (5, kI i5_2), (6, kU (l1.getD i5_2.toNat 0)), (7, kB true)], [], [ob 5 l1]⟩ (aP g5 (aP g6 aN)) ?_
         refine Vrs hT [0, 1] ⟨[(0, kU l0), (1, kH 0), (5, kI i5_2), (6, kU (l1.getD i5_2.toNat 0)), (7, kB true), (8, kH 1)], [], [ob 5 l1, ⟨.row, 5, 1, 12, .b [32, 39, 40, 41, 43, 44, 45, 46, 47, 58, 61, 63]⟩]⟩ ?_
         refine W_seq ?_
         refine Vrs hT [0, 1] ⟨[(0, kU l0), (1, kH 0), (5, kI i5_2), (6, kU (l1.getD i5_2.toNat 0)), (7, kB true), (8, kH 1), (9, kI 0)], [], [ob 5 l1, ⟨.row, 5, 1, 12, .b [32, 39, 40, 41, 43, 44, 45, 46, 47, 58, 61, 63]⟩]⟩ ?_
         refine W_block ?_
         refine Vc [] [0, 1] (rText_l2_E l0 l1 i5_2 0) (W_lp ((rText_l2_P n l0 l1 i5_2 (rText_l1 n l0 l1 fu_l1) r)) n ⟨_, rfl, h⟩ ?_)
         rintro fu_l2 _ ⟨i9_187, rfl, h⟩
         cases fu_l2 with
         | zero => cases h
         | succ fu_l2 =>
          refine ⟨fu_l2, rfl, ?_⟩
          rw [rText_l2] at h
          refine W_seq ?_
          refine Vrs hT [0, 1] ⟨[(0, kU l0), (1, kH 0), (5, kI i5_2), (6, kU (l1.getD i5_2.toNat 0)), (7, kB true), (8, kH 1), (9, kI i9_187), (54, kB (decide (i9_187 < (([32, 39, 40, 41, 43, 44, 45, 46, 47, 58, 61, 63].length : Nat) : Int))))], [], [ob 5 l1, nb 5 [32, 39, 40, 41, 43, 44, 45, 46, 47, 58, 61, 63]]⟩ ?_
          refine Vi ((decide (i9_187 < (([32, 39, 40, 41, 43, 44, 45, 46, 47, 58, 61, 63].length : Nat) : Int)))) (fun g8 => ?_) (fun g8 => ?_)
          ·replace h := bif_t h g8
           refine W_skip ?_
           refine W_seq ?_
           refine W_block ?_
           refine Vr hT [0, 1] ⟨[(0, kU l0), (1, kH 0), (5, kI i5_2), (6, kU (l1.getD i5_2.toNat 0)), (7, kB true), (8, kH 1), (9, kI i9_187)], [], [ob 5 l1, nb 5 [32, 39, 40, 41, 43, 44, 45, 46, 47, 58, 61, 63]]⟩ ?_
           obtain ⟨g7, h⟩ := gd_some h
           refine Vg hT fN [] [] [0, 1] (rText_l2_E l0 l1 i5_2 (i9_187 + 1)) (aP g7 aN) ?_
           exact ⟨_, rfl, h⟩
          ·replace h := bif_f h g8
           refine Vc [] [0] ⟨[(0, kU l0), (1, kH 0), (5, kI i5_2), (7, kB true)], [], [ob 5 l1]⟩ (W_exit ?_)
           refine Vrs hT [0] ⟨[(0, kU l0), (1, kH 0), (5, kI i5_2), (67, kB false)], [], [ob 5 l1]⟩ ?_
           refine Vi (false) (fun hb => by cases hb) (fun _ => ?_)
           refine Vc [] [0] (rText_j1_E l0 l1 i5_2) (W_skip ?_)
           exact ⟨rfl, h⟩
        ·replace h := bif_f h g6
         rcases Bool.eq_false_or_eq_true (decide ((65 : UInt8) ≤ (l1.getD i5_2.toNat 0))) with g9 | g9
         ·replace h := bif_t h g9
          rcases Bool.eq_false_or_eq_true (decide ((l1.getD i5_2.toNat 0) ≤ (90 : UInt8))) with g10 | g10
          ·replace h := bif_t h g10
           refine Vg hT fN [(2, true), (6, false), (9, true), (14, true)] [] [0] ⟨[(0, kU l0), (1, kH 0), (5, kI i5_2), (6, kU (l1.getD i5_2.toNat 0)), (7, kB true)], [], [ob 5 l1]⟩ (aP g5 (aP g6 (aP g9 (aP g10 aN)))) ?_
           refine Vrs hT [0, 1] ⟨[(0, kU l0), (1, kH 0), (5, kI i5_2), (6, kU (l1.getD i5_2.toNat 0)), (7, kB true), (8, kH 1)], [], [ob 5 l1, ⟨.row, 5, 1, 12, .b [32, 39, 40, 41, 43, 44, 45, 46, 47, 58, 61, 63]⟩]⟩ ?_
           refine W_seq ?_
           refine Vrs hT [0, 1] ⟨[(0, kU l0), (1, kH 0), (5, kI i5_2), (6, kU (l1.getD i5_2.toNat 0)), (7, kB true), (8, kH 1), (9, kI 0)], [], [ob 5 l1, ⟨.row, 5, 1, 12, .b [32, 39, 40, 41, 43, 44, 45, 46, 47, 58, 61, 63]⟩]⟩ ?_
           refine W_block ?_
           refine Vc [] [0, 1] (rText_l3_E l0 l1 i5_2 0) (W_lp ((rText_l3_P n l0 l1 i5_2 (rText_l1 n l0 l1 fu_l1) r)) n ⟨_, rfl, h⟩ ?_)
           rintro fu_l3 _ ⟨i9_188, rfl, h⟩
           cases fu_l3 with
           | zero => cases h
           | succ fu_l3 =>
            refine ⟨fu_l3, rfl, ?_⟩
            rw [rText_l3] at h
            refine W_seq ?_
            refine Vrs hT [0, 1] ⟨[(0, kU l0), (1, kH 0), (5, kI i5_2), (6, kU (l1.getD i5_2.toNat 0)), (7, kB true), (8, kH 1), (9, kI i9_188), (54, kB (decide (i9_188 < (([32, 39, 40, 41, 43, 44, 45, 46, 47, 58, 61, 63].length : Nat) : Int))))], [], [ob 5 l1, nb 5 [32, 39, 40, 41, 43, 44, 45, 46, 47, 58, 61, 63]]⟩ ?_
            refine Vi ((decide (i9_188 < (([32, 39, 40, 41, 43, 44, 45, 46, 47, 58, 61, 63].length : Nat) : Int)))) (fun g12 => ?_) (fun g12 => ?_)
            ·replace h := bif_t h g12
             refine W_skip ?_
             refine W_seq ?_
             refine W_block ?_
             refine Vr hT [0, 1] ⟨[(0, kU l0), (1, kH 0), (5, kI i5_2), (6, kU (l1.getD i5_2.toNat 0)), (7, kB true), (8, kH 1), (9, kI i9_188)], [], [ob 5 l1, nb 5 [32, 39, 40, 41, 43, 44, 45, 46, 47, 58, 61, 63]]⟩ ?_
             obtain ⟨g11, h⟩ := gd_some h
             refine Vg hT fN [] [] [0, 1] (rText_l3_E l0 l1 i5_2 (i9_188 + 1)) (aP g11 aN) ?_
             exact ⟨_, rfl, h⟩
            ·replace h := bif_f h g12
             refine Vc [] [0] ⟨[(0, kU l0), (1, kH 0), (5, kI i5_2), (7, kB true)], [], [ob 5 l1]⟩ (W_exit ?_)
             refine Vrs hT [0] ⟨[(0, kU l0), (1, kH 0), (5, kI i5_2), (67, kB false)], [], [ob 5 l1]⟩ ?_
             refine Vi (false) (fun hb => by cases hb) (fun _ => ?_)
             refine Vc [] [0] (rText_j1_E l0 l1 i5_2) (W_skip ?_)
             exact ⟨rfl, h⟩
          ·replace h := bif_f h g10
           rcases Bool.eq_false_or_eq_true (decide ((48 : UInt8) ≤ (l1.getD i5_2.toNat 0))) with g13 | g13
           ·replace h := bif_t h g13
            refine Vg hT fN [(2, true), (6, false), (9, true), (14, false), (17, true)] [] [0] ⟨[(0, kU l0), (1, kH 0), (5, kI i5_2), (6, kU (l1.getD i5_2.toNat 0)), (7, kB (decide ((l1.getD i5_2.toNat 0) ≤ (57 : UInt8))))], [], [ob 5 l1]⟩ (aP g5 (aP g6 (aP g9 (aP g10 (aP g13 aN))))) ?_
            refine Vrs hT [0, 1] ⟨[(0, kU l0), (1, kH 0), (5, kI i5_2), (6, kU (l1.getD i5_2.toNat 0)), (7, kB (decide ((l1.getD i5_2.toNat 0) ≤ (57 : UInt8)))), (8, kH 1)], [], [ob 5 l1, ⟨.row, 5, 1, 12, .b [32, 39, 40, 41, 43, 44, 45, 46, 47, 58, 61, 63]⟩]⟩ ?_
            refine W_seq ?_
            refine Vrs hT [0, 1] ⟨[(0, kU l0), (1, kH 0), (5, kI i5_2), (6, kU (l1.getD i5_2.toNat 0)), (7, kB (decide ((l1.getD i5_2.toNat 0) ≤ (57 : UInt8)))), (8, kH 1), (9, kI 0)], [], [ob 5 l1, ⟨.row, 5, 1, 12, .b [32, 39, 40, 41, 43, 44, 45, 46, 47, 58, 61, 63]⟩]⟩ ?_
            refine W_block ?_
            refine Vc [] [0, 1] (rText_l4_E l0 l1 i5_2 (decide ((l1.getD i5_2.toNat 0) ≤ (57 : UInt8))) 0) (W_lp ((rText_l4_P n l0 l1 i5_2 (rText_l1 n l0 l1 fu_l1) r)) n ⟨_, _, rfl, h⟩ ?_)
            rintro fu_l4 _ ⟨p7_136, i9_189, rfl, h⟩
            cases fu_l4 with
            | zero => cases h
            | succ fu_l4 =>
             refine ⟨fu_l4, rfl, ?_⟩
             rw [rText_l4] at h
             refine W_seq ?_
             refine Vrs hT [0, 1] ⟨[(0, kU l0), (1, kH 0), (5, kI i5_2), (6, kU (l1.getD i5_2.toNat 0)), (7, kB p7_136), (8, kH 1), (9, kI i9_189), (54, kB (decide (i9_189 < (([32, 39, 40, 41, 43, 44, 45, 46, 47, 58, 61, 63].length : Nat) : Int))))], [], [ob 5 l1, nb 5 [32, 39, 40, 41, 43, 44, 45, 46, 47, 58, 61, 63]]⟩ ?_
             refine Vi ((decide (i9_189 < (([32, 39, 40, 41, 43, 44, 45, 46, 47, 58, 61, 63].length : Nat) : Int)))) (fun g20 => ?_) (fun g20 => ?_)
             ·replace h := bif_t h g20
              refine Vc [] [0, 1] ⟨[(0, kU l0), (1, kH 0), (5, kI i5_2), (6, kU (l1.getD i5_2.toNat 0)), (7, kB p7_136), (8, kH 1), (9, kI i9_189)], [], [ob 5 l1, nb 5 [32, 39, 40, 41, 43, 44, 45, 46, 47, 58, 61, 63]]⟩ (W_skip ?_)
              refine W_seq ?_
              refine W_block ?_
              rcases Bool.eq_false_or_eq_true p7_136 with g14 | g14
              ·replace h := bif_t h g14
               refine Vg hT fN [(1, true)] [] [0, 1] ⟨[(0, kU l0), (1, kH 0), (5, kI i5_2), (6, kU (l1.getD i5_2.toNat 0)), (7, kB true), (8, kH 1), (9, kI i9_189)], [], [ob 5 l1, nb 5 [32, 39, 40, 41, 43, 44, 45, 46, 47, 58, 61, 63]]⟩ (aP g14 aN) ?_
               obtain ⟨g15, h⟩ := gd_some h
               refine Vg hT fN [] [] [0, 1] (rText_l4_E l0 l1 i5_2 true (i9_189 + 1)) (aP g15 aN) ?_
               exact ⟨_, _, rfl, h⟩
              ·replace h := bif_f h g14
               obtain ⟨g16, g17, h⟩ := gd2 h
               refine Vg hT fN [(1, false)] [] [0, 1] ⟨[(0, kU l0), (1, kH 0), (5, kI i5_2), (6, kU (l1.getD i5_2.toNat 0)), (7, kB ((l1.getD i5_2.toNat 0) == ([32, 39, 40, 41, 43, 44, 45, 46, 47, 58, 61, 63].getD i9_189.toNat 0))), (8, kH 1), (9, kI i9_189)], [], [ob 5 l1, nb 5 [32, 39, 40, 41, 43, 44, 45, 46, 47, 58, 61, 63]]⟩ (aP g14 (aP g16 (aP g17 aN))) ?_
               obtain ⟨g18, h⟩ := gd_some h
               refine Vg hT fN [] [] [0, 1] (rText_l4_E l0 l1 i5_2 ((l1.getD i5_2.toNat 0) == ([32, 39, 40, 41, 43, 44, 45, 46, 47, 58, 61, 63].getD i9_189.toNat 0)) (i9_189 + 1)) (aP g18 aN) ?_
               exact ⟨_, _, rfl, h⟩
             ·replace h := bif_f h g20
              refine Vc [] [0] ⟨[(0, kU l0), (1, kH 0), (5, kI i5_2), (7, kB p7_136)], [], [ob 5 l1]⟩ (W_exit ?_)
              refine Vrs hT [0] ⟨[(0, kU l0), (1, kH 0), (5, kI i5_2), (67, kB (!p7_136))], [], [ob 5 l1]⟩ ?_
              refine Vi ((!p7_136)) (fun g19 => ?_) (fun g19 => ?_)
              ·replace h := bif_t h g19
               refine Vrs hT [] ⟨[(4, kB false)], [], []⟩ ?_
               refine Vc [] [] (rText_R false) (W_ret ?_)
               exact ⟨.inl rfl, by cases h; rfl⟩
              ·replace h := bif_f h g19
               refine Vc [] [0] (rText_j1_E l0 l1 i5_2) (W_skip ?_)
               exact ⟨rfl, h⟩
           ·replace h := bif_f h g13
            refine Vg hT fN [(2, true), (6, false), (9, true), (14, false), (17, false)] [] [0] ⟨[(0, kU l0), (1, kH 0), (5, kI i5_2), (6, kU (l1.getD i5_2.toNat 0)), (7, kB false)], [], [ob 5 l1]⟩ (aP g5 (aP g6 (aP g9 (aP g10 (aP g13 aN))))) ?_
            refine Vrs hT [0, 1] ⟨[(0, kU l0), (1, kH 0), (5, kI i5_2), (6, kU (l1.getD i5_2.toNat 0)), (7, kB false), (8, kH 1)], [], [ob 5 l1, ⟨.row, 5, 1, 12, .b [32, 39, 40, 41, 43, 44, 45, 46, 47, 58, 61, 63]⟩]⟩ ?_
            refine W_seq ?_
            refine Vrs hT [0, 1] ⟨[(0, kU l0), (1, kH 0), (5, kI i5_2), (6, kU (l1.getD i5_2.toNat 0)), (7, kB false), (8, kH 1), (9, kI 0)], [], [ob 5 l1, ⟨.row, 5, 1, 12, .b [32, 39, 40, 41, 43, 44, 45, 46, 47, 58, 61, 63]⟩]⟩ ?_
            refine W_block ?_
            refine Vc [] [0, 1] (rText_l5_E l0 l1 i5_2 false 0) (W_lp ((rText_l5_P n l0 l1 i5_2 (rText_l1 n l0 l1 fu_l1) r)) n ⟨_, _, rfl, h⟩ ?_)
            rintro fu_l5 _ ⟨p7_137, i9_190, rfl, h⟩
            cases fu_l5 with
            | zero => cases h
            | succ fu_l5 =>
             refine ⟨fu_l5, rfl, ?_⟩
             rw [rText_l5] at h
             refine W_seq ?_
             refine Vrs hT [0, 1] ⟨[(0, kU l0), (1, kH 0), (5, kI i5_2), (6, kU (l1.getD i5_2.toNat 0)), (7, kB p7_137), (8, kH 1), (9, kI i9_190), (54, kB (decide (i9_190 < (([32, 39, 40, 41, 43, 44, 45, 46, 47, 58, 61, 63].length : Nat) : Int))))], [], [ob 5 l1, nb 5 [32, 39, 40, 41, 43, 44, 45, 46, 47, 58, 61, 63]]⟩ ?_
             refine Vi ((decide (i9_190 < (([32, 39, 40, 41, 43, 44, 45, 46, 47, 58, 61, 63].length : Nat) : Int)))) (fun g27 => ?_) (fun g27 => ?_)
             ·replace h := bif_t h g27
              refine Vc [] [0, 1] ⟨[(0, kU l0), (1, kH 0), (5, kI i5_2), (6, kU (l1.getD i5_2.toNat 0)), (7, kB p7_137), (8, kH 1), (9, kI i9_190)], [], [ob 5 l1, nb 5 [32, 39, 40, 41, 43, 44, 45, 46, 47, 58, 61, 63]]⟩ (W_skip ?_)
              refine W_seq ?_
              refine W_block ?_
              rcases Bool.eq_false_or_eq_true p7_137 with g21 | g21
              ·replace h := bif_t h g21
               refine Vg hT fN [(1, true)] [] [0, 1] ⟨[(0, kU l0), (1, kH 0), (5, kI i5_2), (6, kU (l1.getD i5_2.toNat 0)), (7, kB true), (8, kH 1), (9, kI i9_190)], [], [ob 5 l1, nb 5 [32, 39, 40, 41, 43, 44, 45, 46, 47, 58, 61, 63]]⟩ (aP g21 aN) ?_
               obtain ⟨g22, h⟩ := gd_some h
               refine Vg hT fN [] [] [0, 1] (rText_l5_E l0 l1 i5_2 true (i9_190 + 1)) (aP g22 aN) ?_
               exact ⟨_, _, rfl, h⟩
              ·replace h := bif_f h g21
               obtain ⟨g23, g24, h⟩ := gd2 h
               refine Vg hT fN [(1, false)] [] [0, 1] ⟨[(0, kU l0), (1, kH 0), (5, kI i5_2), (6, kU (l1.getD i5_2.toNat 0)), (7, kB ((l1.getD i5_2.toNat 0) == ([32, 39, 40, 41, 43, 44, 45, 46, 47, 58, 61, 63].getD i9_190.toNat 0))), (8, kH 1), (9, kI i9_190)], [], [ob 5 l1, nb 5 [32, 39, 40, 41, 43, 44, 45, 46, 47, 58, 61, 63]]⟩ (aP g21 (aP g23 (aP g24 aN))) ?_
               obtain ⟨g25, h⟩ := gd_some h
               refine Vg hT fN [] [] [0, 1] (rText_l5_E l0 l1 i5_2 ((l1.getD i5_2.toNat 0) == ([32, 39, 40, 41, 43, 44, 45, 46, 47, 58, 61, 63].getD i9_190.toNat 0)) (i9_190 + 1)) (aP g25 aN) ?_
               exact ⟨_, _, rfl, h⟩
             ·replace h := bif_f h g27
              refine Vc [] [0] ⟨[(0, kU l0), (1, kH 0), (5, kI i5_2), (7, kB p7_137)], [], [ob 5 l1]⟩ (W_exit ?_)
              refine Vrs hT [0] ⟨[(0, kU l0), (1, kH 0), (5, kI i5_2), (67, kB (!p7_137))], [], [ob 5 l1]⟩ ?_
              refine Vi ((!p7_137)) (fun g26 => ?_) (fun g26 => ?_)
              ·replace h := bif_t h g26
               refine Vrs hT [] ⟨[(4, kB false)], [], []⟩ ?_
               refine Vc [] [] (rText_R false) (W_ret ?_)
               exact ⟨.inl rfl, by cases h; rfl⟩
              ·replace h := bif_f h g26
               refine Vc [] [0] (rText_j1_E l0 l1 i5_2) (W_skip ?_)
               exact ⟨rfl, h⟩
         ·replace h := bif_f h g9
          rcases Bool.eq_false_or_eq_true (decide ((48 : UInt8) ≤ (l1.getD i5_2.toNat 0))) with g28 | g28
          ·replace h := bif_t h g28
           refine Vg hT fN [(2, true), (6, false), (9, false), (17, true)] [] [0] ⟨[(0, kU l0), (1, kH 0), (5, kI i5_2), (6, kU (l1.getD i5_2.toNat 0)), (7, kB (decide ((l1.getD i5_2.toNat 0) ≤ (57 : UInt8))))], [], [ob 5 l1]⟩ (aP g5 (aP g6 (aP g9 (aP g28 aN)))) ?_
           refine Vrs hT [0, 1] ⟨[(0, kU l0), (1, kH 0), (5, kI i5_2), (6, kU (l1.getD i5_2.toNat 0)), (7, kB (decide ((l1.getD i5_2.toNat 0) ≤ (57 : UInt8)))), (8, kH 1)], [], [ob 5 l1, ⟨.row, 5, 1, 12, .b [32, 39, 40, 41, 43, 44, 45, 46, 47, 58, 61, 63]⟩]⟩ ?_
           refine W_seq ?_
           refine Vrs hT [0, 1] ⟨[(0, kU l0), (1, kH 0), (5, kI i5_2), (6, kU (l1.getD i5_2.toNat 0)), (7, kB (decide ((l1.getD i5_2.toNat 0) ≤ (57 : UInt8)))), (8, kH 1), (9, kI 0)], [], [ob 5 l1, ⟨.row, 5, 1, 12, .b [32, 39, 40, 41, 43, 44, 45, 46, 47, 58, 61, 63]⟩]⟩ ?_
           refine W_block ?_
           refine Vc [] [0, 1] (rText_l6_E l0 l1 i5_2 (decide ((l1.getD i5_2.toNat 0) ≤ (57 : UInt8))) 0) (W_lp ((rText_l6_P n l0 l1 i5_2 (rText_l1 n l0 l1 fu_l1) r)) n ⟨_, _, rfl, h⟩ ?_)
           rintro fu_l6 _ ⟨p7_138, i9_191, rfl, h⟩
           cases fu_l6 with
           | zero => cases h
           | succ fu_l6 =>
            refine ⟨fu_l6, rfl, ?_⟩
            rw [rText_l6] at h
            refine W_seq ?_
            refine Vrs hT [0, 1] ⟨[(0, kU l0), (1, kH 0), (5, kI i5_2), (6, kU (l1.getD i5_2.toNat 0)), (7, kB p7_138), (8, kH 1), (9, kI i9_191), (54, kB (decide (i9_191 < (([32, 39, 40, 41, 43, 44, 45, 46, 47, 58, 61, 63].length : Nat) : Int))))], [], [ob 5 l1, nb 5 [32, 39, 40, 41, 43, 44, 45, 46, 47, 58, 61, 63]]⟩ ?_
            refine Vi ((decide (i9_191 < (([32, 39, 40, 41, 43, 44, 45, 46, 47, 58, 61, 63].length : Nat) : Int)))) (fun g35 => ?_) (fun g35 => ?_)
            ·replace h := bif_t h g35
             refine Vc [] [0, 1] ⟨[(0, kU l0), (1, kH 0), (5, kI i5_2), (6, kU (l1.getD i5_2.toNat 0)), (7, kB p7_138), (8, kH 1), (9, kI i9_191)], [], [ob 5 l1, nb 5 [32, 39, 40, 41, 43, 44, 45, 46, 47, 58, 61, 63]]⟩ (W_skip ?_)
             refine W_seq ?_
             refine W_block ?_
             rcases Bool.eq_false_or_eq_true p7_138 with g29 | g29
             ·replace h := bif_t h g29
              refine Vg hT fN [(1, true)] [] [0, 1] ⟨[(0, kU l0), (1, kH 0), (5, kI i5_2), (6, kU (l1.getD i5_2.toNat 0)), (7, kB true), (8, kH 1), (9, kI i9_191)], [], [ob 5 l1, nb 5 [32, 39, 40, 41, 43, 44, 45, 46, 47, 58, 61, 63]]⟩ (aP g29 aN) ?_
              obtain ⟨g30, h⟩ := gd_some h
              refine Vg hT fN [] [] [0, 1] (rText_l6_E l0 l1 i5_2 true (i9_191 + 1)) (aP g30 aN) ?_
              exact ⟨_, _, rfl, h⟩
             ·replace h := bif_f h g29
              obtain ⟨g31, g32, h⟩ := gd2 h
              refine Vg hT fN [(1, false)] [] [0, 1] ⟨[(0, kU l0), (1, kH 0), (5, kI i5_2), (6, kU (l1.getD i5_2.toNat 0)), (7, kB ((l1.getD i5_2.toNat 0) == ([32, 39, 40, 41, 43, 44, 45, 46, 47, 58, 61, 63].getD i9_191.toNat 0))), (8, kH 1), (9, kI i9_191)], [], [ob 5 l1, nb 5 [32, 39, 40, 41, 43, 44, 45, 46, 47, 58, 61, 63]]⟩ (aP g29 (aP g31 (aP g32 aN))) ?_
              obtain ⟨g33, h⟩ := gd_some h
              refine Vg hT fN [] [] [0, 1] (rText_l6_E l0 l1 i5_2 ((l1.getD i5_2.toNat 0) == ([32, 39, 40, 41, 43, 44, 45, 46, 47, 58, 61, 63].getD i9_191.toNat 0)) (i9_191 + 1)) (aP g33 aN) ?_
              exact ⟨_, _, rfl, h⟩
            ·replace h := bif_f h g35
             refine Vc [] [0] ⟨[(0, kU l0), (1, kH 0), (5, kI i5_2), (7, kB p7_138)], [], [ob 5 l1]⟩ (W_exit ?_)
             refine Vrs hT [0] ⟨[(0, kU l0), (1, kH 0), (5, kI i5_2), (67, kB (!p7_138))], [], [ob 5 l1]⟩ ?_
             refine Vi ((!p7_138)) (fun g34 => ?_) (fun g34 => ?_)
             ·replace h := bif_t h g34
              refine Vrs hT [] ⟨[(4, kB false)], [], []⟩ ?_
              refine Vc [] [] (rText_R false) (W_ret ?_)
              exact ⟨.inl rfl, by cases h; rfl⟩
             ·replace h := bif_f h g34
              refine Vc [] [0] (rText_j1_E l0 l1 i5_2) (W_skip ?_)
              exact ⟨rfl, h⟩
          ·replace h := bif_f h g28
           refine Vg hT fN [(2, true), (6, false), (9, false), (17, false)] [] [0] ⟨[(0, kU l0), (1, kH 0), (5, kI i5_2), (6, kU (l1.getD i5_2.toNat 0)), (7, kB false)], [], [ob 5 l1]⟩ (aP g5 (aP g6 (aP g9 (aP g28 aN)))) ?_
           refine Vrs hT [0, 1] ⟨[(0, kU l0), (1, kH 0), (5, kI i5_2), (6, kU (l1.getD i5_2.toNat 0)), (7, kB false), (8, kH 1)], [], [ob 5 l1, ⟨.row, 5, 1, 12, .b [32, 39, 40, 41, 43, 44, 45, 46, 47, 58, 61, 63]⟩]⟩ ?_
           refine W_seq ?_
           refine Vrs hT [0, 1] ⟨[(0, kU l0), (1, kH 0), (5, kI i5_2), (6, kU (l1.getD i5_2.toNat 0)), (7, kB false), (8, kH 1), (9, kI 0)], [], [ob 5 l1, ⟨.row, 5, 1, 12, .b [32, 39, 40, 41, 43, 44, 45, 46, 47, 58, 61, 63]⟩]⟩ ?_
           refine W_block ?_
           refine Vc [] [0, 1] (rText_l7_E l0 l1 i5_2 false 0) (W_lp ((rText_l7_P n l0 l1 i5_2 (rText_l1 n l0 l1 fu_l1) r)) n ⟨_, _, rfl, h⟩ ?_)
           rintro fu_l7 _ ⟨p7_139, i9_192, rfl, h⟩
           cases fu_l7 with
           | zero => cases h
           | succ fu_l7 =>
            refine ⟨fu_l7, rfl, ?_⟩
            rw [rText_l7] at h
            refine W_seq ?_
            refine Vrs hT [0, 1] ⟨[(0, kU l0), (1, kH 0), (5, kI i5_2), (6, kU (l1.getD i5_2.toNat 0)), (7, kB p7_139), (8, kH 1), (9, kI i9_192), (54, kB (decide (i9_192 < (([32, 39, 40, 41, 43, 44, 45, 46, 47, 58, 61, 63].length : Nat) : Int))))], [], [ob 5 l1, nb 5 [32, 39, 40, 41, 43, 44, 45, 46, 47, 58, 61, 63]]⟩ ?_
            refine Vi ((decide (i9_192 < (([32, 39, 40, 41, 43, 44, 45, 46, 47, 58, 61, 63].length : Nat) : Int)))) (fun g42 => ?_) (fun g42 => ?_)
            ·replace h := bif_t h g42
             refine Vc [] [0, 1] ⟨[(0, kU l0), (1, kH 0), (5, kI i5_2), (6, kU (l1.getD i5_2.toNat 0)), (7, kB p7_139), (8, kH 1), (9, kI i9_192)], [], [ob 5 l1, nb 5 [32, 39, 40, 41, 43, 44, 45, 46, 47, 58, 61, 63]]⟩ (W_skip ?_)
             refine W_seq ?_
             refine W_block ?_
             rcases Bool.eq_false_or_eq_true p7_139 with g36 | g36
             ·replace h := bif_t h g36
              refine Vg hT fN [(1, true)] [] [0, 1] ⟨[(0, kU l0), (1, kH 0), (5, kI i5_2), (6, kU (l1.getD i5_2.toNat 0)), (7, kB true), (8, kH 1), (9, kI i9_192)], [], [ob 5 l1, nb 5 [32, 39, 40, 41, 43, 44, 45, 46, 47, 58, 61, 63]]⟩ (aP g36 aN) ?_
              obtain ⟨g37, h⟩ := gd_some h
              refine Vg hT fN [] [] [0, 1] (rText_l7_E l0 l1 i5_2 true (i9_192 + 1)) (aP g37 aN) ?_
              exact ⟨_, _, rfl, h⟩
             ·replace h := bif_f h g36
              obtain ⟨g38, g39, h⟩ := gd2 h
              refine Vg hT fN [(1, false)] [] [0, 1] ⟨[(0, kU l0), (1, kH 0), (5, kI i5_2), (6, kU (l1.getD i5_2.toNat 0)), (7, kB ((l1.getD i5_2.toNat 0) == ([32, 39, 40, 41, 43, 44, 45, 46, 47, 58, 61, 63].getD i9_192.toNat 0))), (8, kH 1), (9, kI i9_192)], [], [ob 5 l1, nb 5 [32, 39, 40, 41, 43, 44, 45, 46, 47, 58, 61, 63]]⟩ (aP g36 (aP g38 (aP g39 aN))) ?_
              obtain ⟨g40, h⟩ := gd_some h
              refine Vg hT fN [] [] [0, 1] (rText_l7_E l0 l1 i5_2 ((l1.getD i5_2.toNat 0) == ([32, 39, 40, 41, 43, 44, 45, 46, 47, 58, 61, 63].getD i9_192.toNat 0)) (i9_192 + 1)) (aP g40 aN) ?_
              exact ⟨_, _, rfl, h⟩
            ·replace h := bif_f h g42
             refine Vc [] [0] ⟨[(0, kU l0), (1, kH 0), (5, kI i5_2), (7, kB p7_139)], [], [ob 5 l1]⟩ (W_exit ?_)
             refine Vrs hT [0] ⟨[(0, kU l0), (1, kH 0), (5, kI i5_2), (67, kB (!p7_139))], [], [ob 5 l1]⟩ ?_
             refine Vi ((!p7_139)) (fun g41 => ?_) (fun g41 => ?_)
             ·replace h := bif_t h g41
              refine Vrs hT [] ⟨[(4, kB false)], [], []⟩ ?_
              refine Vc [] [] (rText_R false) (W_ret ?_)
              exact ⟨.inl rfl, by cases h; rfl⟩
             ·replace h := bif_f h g41
              refine Vc [] [0] (rText_j1_E l0 l1 i5_2) (W_skip ?_)
              exact ⟨rfl, h⟩
       ·replace h := bif_f h g5
        rcases Bool.eq_false_or_eq_true (decide ((65 : UInt8) ≤ (l1.getD i5_2.toNat 0))) with g43 | g43
        ·replace h := bif_t h g43
         rcases Bool.eq_false_or_eq_true (decide ((l1.getD i5_2.toNat 0) ≤ (90 : UInt8))) with g44 | g44
         ·replace h := bif_t h g44
          refine Vg hT fN [(2, false), (9, true), (14, true)] [] [0] ⟨[(0, kU l0), (1, kH 0), (5, kI i5_2), (6, kU (l1.getD i5_2.toNat 0)), (7, kB true)], [], [ob 5 l1]⟩ (aP g5 (aP g43 (aP g44 aN))) ?_
          refine Vrs hT [0, 1] ⟨[(0, kU l0), (1, kH 0), (5, kI i5_2), (6, kU (l1.getD i5_2.toNat 0)), (7, kB true), (8, kH 1)], [], [ob 5 l1, ⟨.row, 5, 1, 12, .b [32, 39, 40, 41, 43, 44, 45, 46, 47, 58, 61, 63]⟩]⟩ ?_
          refine W_seq ?_
          refine Vrs hT [0, 1] ⟨[(0, kU l0), (1, kH 0), (5, kI i5_2), (6, kU (l1.getD i5_2.toNat 0)), (7, kB true), (8, kH 1), (9, kI 0)], [], [ob 5 l1, ⟨.row, 5, 1, 12, .b [32, 39, 40, 41, 43, 44, 45, 46, 47, 58, 61, 63]⟩]⟩ ?_
          refine W_block ?_
          refine Vc [] [0, 1] (rText_l8_E l0 l1 i5_2 0) (W_lp ((rText_l8_P n l0 l1 i5_2 (rText_l1 n l0 l1 fu_l1) r)) n ⟨_, rfl, h⟩ ?_)
          rintro fu_l8 _ ⟨i9_193, rfl, h⟩
          cases fu_l8 with
          | zero => cases h
          | succ fu_l8 =>
           refine ⟨fu_l8, rfl, ?_⟩
           rw [rText_l8] at h
           refine W_seq ?_
           refine Vrs hT [0, 1] ⟨[(0, kU l0), (1, kH 0), (5, kI i5_2), (6, kU (l1.getD i5_2.toNat 0)), (7, kB true), (8, kH 1), (9, kI i9_193), (54, kB (decide (i9_193 < (([32, 39, 40, 41, 43, 44, 45, 46, 47, 58, 61, 63].length : Nat) : Int))))], [], [ob 5 l1, nb 5 [32, 39, 40, 41, 43, 44, 45, 46, 47, 58, 61, 63]]⟩ ?_
           refine Vi ((decide (i9_193 < (([32, 39, 40, 41, 43, 44, 45, 46, 47, 58, 61, 63].length : Nat) : Int)))) (fun g46 => ?_) (fun g46 => ?_)
           ·replace h := bif_t h g46
            refine W_skip ?_
            refine W_seq ?_
            refine W_block ?_
            refine Vr hT [0, 1] ⟨[(0, kU l0), (1, kH 0), (5, kI i5_2), (6, kU (l1.getD i5_2.toNat 0)), (7, kB true), (8, kH 1), (9, kI i9_193)], [], [ob 5 l1, nb 5 [32, 39, 40, 41, 43, 44, 45, 46, 47, 58, 61, 63]]⟩ ?_
            obtain ⟨g45, h⟩ := gd_some h
            refine Vg hT fN [] [] [0, 1] (rText_l8_E l0 l1 i5_2 (i9_193 + 1)) (aP g45 aN) ?_
            exact ⟨_, rfl, h⟩
           ·replace h := bif_f h g46
            refine Vc [] [0] ⟨[(0, kU l0), (1, kH 0), (5, kI i5_2), (7, kB true)], [], [ob 5 l1]⟩ (W_exit ?_)
            refine Vrs hT [0] ⟨[(0, kU l0), (1, kH 0), (5, kI i5_2), (67, kB false)], [], [ob 5 l1]⟩ ?_
            refine Vi (false) (fun hb => by cases hb) (fun _ => ?_)
            refine Vc [] [0] (rText_j1_E l0 l1 i5_2) (W_skip ?_)
            exact ⟨rfl, h⟩
         ·replace h := bif_f h g44
          rcases Bool.eq_false_or_eq_true (decide ((48 : UInt8) ≤ (l1.getD i5_2.toNat 0))) with g47 | g47
          ·replace h := bif_t h g47
           refine Vg hT fN [(2, false), (9, true), (14, false), (17, true)] [] [0] ⟨[(0, kU l0), (1, kH 0), (5, kI i5_2), (6, kU (l1.getD i5_2.toNat 0)), (7, kB (decide ((l1.getD i5_2.toNat 0) ≤ (57 : UInt8))))], [], [ob 5 l1]⟩ (aP g5 (aP g43 (aP g44 (aP g47 aN)))) ?_
           refine Vrs hT [0, 1] ⟨[(0, kU l0), (1, kH 0), (5, kI i5_2), (6, kU (l1.getD i5_2.toNat 0)), (7, kB (decide ((l1.getD i5_2.toNat 0) ≤ (57 : UInt8)))), (8, kH 1)], [], [ob 5 l1, ⟨.row, 5, 1, 12, .b [32, 39, 40, 41, 43, 44, 45, 46, 47, 58, 61, 63]⟩]⟩ ?_
           refine W_seq ?_
           refine Vrs hT [0, 1] ⟨[(0, kU l0), (1, kH 0), (5, kI i5_2), (6, kU (l1.getD i5_2.toNat 0)), (7, kB (decide ((l1.getD i5_2.toNat 0) ≤ (57 : UInt8)))), (8, kH 1), (9, kI 0)], [], [ob 5 l1, ⟨.row, 5, 1, 12, .b [32, 39, 40, 41, 43, 44, 45, 46, 47, 58, 61, 63]⟩]⟩ ?_
           refine W_block ?_
           refine Vc [] [0, 1] (rText_l9_E l0 l1 i5_2 (decide ((l1.getD i5_2.toNat 0) ≤ (57 : UInt8))) 0) (W_lp ((rText_l9_P n l0 l1 i5_2 (rText_l1 n l0 l1 fu_l1) r)) n ⟨_, _, rfl, h⟩ ?_)
           rintro fu_l9 _ ⟨p7_140, i9_194, rfl, h⟩
           cases fu_l9 with
           | zero => cases h
           | succ fu_l9 =>
            refine ⟨fu_l9, rfl, ?_⟩
            rw [rText_l9] at h
            refine W_seq ?_
            refine Vrs hT [0, 1] ⟨[(0, kU l0), (1, kH 0), (5, kI i5_2), (6, kU (l1.getD i5_2.toNat 0)), (7, kB p7_140), (8, kH 1), (9, kI i9_194), (54, kB (decide (i9_194 < (([32, 39, 40, 41, 43, 44, 45, 46, 47, 58, 61, 63].length : Nat) : Int))))], [], [ob 5 l1, nb 5 [32, 39, 40, 41, 43, 44, 45, 46, 47, 58, 61, 63]]⟩ ?_
            refine Vi ((decide (i9_194 < (([32, 39, 40, 41, 43, 44, 45, 46, 47, 58, 61, 63].length : Nat) : Int)))) (fun g54 => ?_) (fun g54 => ?_)
            ·replace h := bif_t h g54
             refine Vc [] [0, 1] ⟨[(0, kU l0), (1, kH 0), (5, kI i5_2), (6, kU (l1.getD i5_2.toNat 0)), (7, kB p7_140), (8, kH 1), (9, kI i9_194)], [], [ob 5 l1, nb 5 [32, 39, 40, 41, 43, 44, 45, 46, 47, 58, 61, 63]]⟩ (W_skip ?_)
             refine W_seq ?_
             refine W_block ?_
             rcases Bool.eq_false_or_eq_true p7_140 with g48 | g48
             ·replace h := bif_t h g48
              refine Vg hT fN [(1, true)] [] [0, 1] ⟨[(0, kU l0), (1, kH 0), (5, kI i5_2), (6, kU (l1.getD i5_2.toNat 0)), (7, kB true), (8, kH 1), (9, kI i9_194)], [], [ob 5 l1, nb 5 [32, 39, 40, 41, 43, 44, 45, 46, 47, 58, 61, 63]]⟩ (aP g48 aN) ?_
              obtain ⟨g49, h⟩ := gd_some h
              refine Vg hT fN [] [] [0, 1] (rText_l9_E l0 l1 i5_2 true (i9_194 + 1)) (aP g49 aN) ?_
              exact ⟨_, _, rfl, h⟩
             ·replace h := bif_f h g48
              obtain ⟨g50, g51, h⟩ := gd2 h
              refine Vg hT fN [(1, false)] [] [0, 1] ⟨[(0, kU l0), (1, kH 0), (5, kI i5_2), (6, kU (l1.getD i5_2.toNat 0)), (7, kB ((l1.getD i5_2.toNat 0) == ([32, 39, 40, 41, 43, 44, 45, 46, 47, 58, 61, 63].getD i9_194.toNat 0))), (8, kH 1), (9, kI i9_194)], [], [ob 5 l1, nb 5 [32, 39, 40, 41, 43, 44, 45, 46, 47, 58, 61, 63]]⟩ (aP g48 (aP g50 (aP g51 aN))) ?_
              obtain ⟨g52, h⟩ := gd_some h
              refine Vg hT fN [] [] [0, 1] (rText_l9_E l0 l1 i5_2 ((l1.getD i5_2.toNat 0) == ([32, 39, 40, 41, 43, 44, 45, 46, 47, 58, 61, 63].getD i9_194.toNat 0)) (i9_194 + 1)) (aP g52 aN) ?_
              exact ⟨_, _, rfl, h⟩
            ·replace h := bif_f h g54
             refine Vc [] [0] ⟨[(0, kU l0), (1, kH 0), (5, kI i5_2), (7, kB p7_140)], [], [ob 5 l1]⟩ (W_exit ?_)
             refine Vrs hT [0] ⟨[(0, kU l0), (1, kH 0), (5, kI i5_2), (67, kB (!p7_140))], [], [ob 5 l1]⟩ ?_
             refine Vi ((!p7_140)) (fun g53 => ?_) (fun g53 => ?_)
             ·replace h := bif_t h g53
              refine Vrs hT [] ⟨[(4, kB false)], [], []⟩ ?_
              refine Vc [] [] (rText_R false) (W_ret ?_)
              exact ⟨.inl rfl, by cases h; rfl⟩
             ·replace h := bif_f h g53
              refine Vc [] [0] (rText_j1_E l0 l1 i5_2) (W_skip ?_)
              exact ⟨rfl, h⟩
          ·replace h := bif_f h g47
           refine Vg hT fN [(2, false), (9, true), (14, false), (17, false)] [] [0] ⟨[(0, kU l0), (1, kH 0), (5, kI i5_2), (6, kU (l1.getD i5_2.toNat 0)), (7, kB false)], [], [ob 5 l1]⟩ (aP g5 (aP g43 (aP g44 (aP g47 aN)))) ?_
           refine Vrs hT [0, 1] ⟨[(0, kU l0), (1, kH 0), (5, kI i5_2), (6, kU (l1.getD i5_2.toNat 0)), (7, kB false), (8, kH 1)], [], [ob 5 l1, ⟨.row, 5, 1, 12, .b [32, 39, 40, 41, 43, 44, 45, 46, 47, 58, 61, 63]⟩]⟩ ?_
           refine W_seq ?_
           refine Vrs hT [0, 1] ⟨[(0, kU l0), (1, kH 0), (5, kI i5_2), (6, kU (l1.getD i5_2.toNat 0)), (7, kB false), (8, kH 1), (9, kI 0)], [], [ob 5 l1, ⟨.row, 5, 1, 12, .b [32, 39, 40, 41, 43, 44, 45, 46, 47, 58, 61, 63]⟩]⟩ ?_
           refine W_block ?_
           refine Vc [] [0, 1] (rText_l10_E l0 l1 i5_2 false 0) (W_lp ((rText_l10_P n l0 l1 i5_2 (rText_l1 n l0 l1 fu_l1) r)) n ⟨_, _, rfl, h⟩ ?_)
           rintro fu_l10 _ ⟨p7_141, i9_195, rfl, h⟩
           cases fu_l10 with
           | zero => cases h
           | succ fu_l10 =>
            refine ⟨fu_l10, rfl, ?_⟩
            rw [rText_l10] at h
            refine W_seq ?_
            refine Vrs hT [0, 1] ⟨[(0, kU l0), (1, kH 0), (5, kI i5_2), (6, kU (l1.getD i5_2.toNat 0)), (7, kB p7_141), (8, kH 1), (9, kI i9_195), (54, kB (decide (i9_195 < (([32, 39, 40, 41, 43, 44, 45, 46, 47, 58, 61, 63].length : Nat) : Int))))], [], [ob 5 l1, nb 5 [32, 39, 40, 41, 43, 44, 45, 46, 47, 58, 61, 63]]⟩ ?_
            refine Vi ((decide (i9_195 < (([32, 39, 40, 41, 43, 44, 45, 46, 47, 58, 61, 63].length : Nat) : Int)))) (fun g61 => ?_) (fun g61 => ?_)
            ·replace h := bif_t h g61
             refine Vc [] [0, 1] ⟨[(0, kU l0), (1, kH 0), (5, kI i5_2), (6, kU (l1.getD i5_2.toNat 0)), (7, kB p7_141), (8, kH 1), (9, kI i9_195)], [], [ob 5 l1, nb 5 [32, 39, 40, 41, 43, 44, 45, 46, 47, 58, 61, 63]]⟩ (W_skip ?_)
             refine W_seq ?_
             refine W_block ?_
             rcases Bool.eq_false_or_eq_true p7_141 with g55 | g55
             ·replace h := bif_t h g55
              refine Vg hT fN [(1, true)] [] [0, 1] ⟨[(0, kU l0), (1, kH 0), (5, kI i5_2), (6, kU (l1.getD i5_2.toNat 0)), (7, kB true), (8, kH 1), (9, kI i9_195)], [], [ob 5 l1, nb 5 [32, 39, 40, 41, 43, 44, 45, 46, 47, 58, 61, 63]]⟩ (aP g55 aN) ?_
              obtain ⟨g56, h⟩ := gd_some h
              refine Vg hT fN [] [] [0, 1] (rText_l10_E l0 l1 i5_2 true (i9_195 + 1)) (aP g56 aN) ?_
              exact ⟨_, _, rfl, h⟩
             ·replace h := bif_f h g55
              obtain ⟨g57, g58, h⟩ := gd2 h
              refine Vg hT fN [(1, false)] [] [0, 1] ⟨[(0, kU l0), (1, kH 0), (5, kI i5_2), (6, kU (l1.getD i5_2.toNat 0)), (7, kB ((l1.getD i5_2.toNat 0) == ([32, 39, 40, 41, 43, 44, 45, 46, 47, 58, 61, 63].getD i9_195.toNat 0))), (8, kH 1), (9, kI i9_195)], [], [ob 5 l1, nb 5 [32, 39, 40, 41, 43, 44, 45, 46, 47, 58, 61, 63]]⟩ (aP g55 (aP g57 (aP g58 aN))) ?_
              obtain ⟨g59, h⟩ := gd_some h
              refine Vg hT fN [] [] [0, 1] (rText_l10_E l0 l1 i5_2 ((l1.getD i5_2.toNat 0) == ([32, 39, 40, 41, 43, 44, 45, 46, 47, 58, 61, 63].getD i9_195.toNat 0)) (i9_195 + 1)) (aP g59 aN) ?_
              exact ⟨_, _, rfl, h⟩
            ·replace h := bif_f h g61
             refine Vc [] [0] ⟨[(0, kU l0), (1, kH 0), (5, kI i5_2), (7, kB p7_141)], [], [ob 5 l1]⟩ (W_exit ?_)
             refine Vrs hT [0] ⟨[(0, kU l0), (1, kH 0), (5, kI i5_2), (67, kB (!p7_141))], [], [ob 5 l1]⟩ ?_
             refine Vi ((!p7_141)) (fun g60 => ?_) (fun g60 => ?_)
             ·replace h := bif_t h g60
              refine Vrs hT [] ⟨[(4, kB false)], [], []⟩ ?_
              refine Vc [] [] (rText_R false) (W_ret ?_)
              exact ⟨.inl rfl, by cases h; rfl⟩
             ·replace h := bif_f h g60
              refine Vc [] [0] (rText_j1_E l0 l1 i5_2) (W_skip ?_)
              exact ⟨rfl, h⟩
        ·replace h := bif_f h g43
         rcases Bool.eq_false_or_eq_true (decide ((48 : UInt8) ≤ (l1.getD i5_2.toNat 0))) with g62 | g62
         ·replace h := bif_t h g62
          refine Vg hT fN [(2, false), (9, false), (17, true)] [] [0] ⟨[(0, kU l0), (1, kH 0), (5, kI i5_2), (6, kU (l1.getD i5_2.toNat 0)), (7, kB (decide ((l1.getD i5_2.toNat 0) ≤ (57 : UInt8))))], [], [ob 5 l1]⟩ (aP g5 (aP g43 (aP g62 aN))) ?_
          refine Vrs hT [0, 1] ⟨[(0, kU l0), (1, kH 0), (5, kI i5_2), (6, kU (l1.getD i5_2.toNat 0)), (7, kB (decide ((l1.getD i5_2.toNat 0) ≤ (57 : UInt8)))), (8, kH 1)], [], [ob 5 l1, ⟨.row, 5, 1, 12, .b [32, 39, 40, 41, 43, 44, 45, 46, 47, 58, 61, 63]⟩]⟩ ?_
          refine W_seq ?_
          refine Vrs hT [0, 1] ⟨[(0, kU l0), (1, kH 0), (5, kI i5_2), (6, kU (l1.getD i5_2.toNat 0)), (7, kB (decide ((l1.getD i5_2.toNat 0) ≤ (57 : UInt8)))), (8, kH 1), (9, kI 0)], [], [ob 5 l1, ⟨.row, 5, 1, 12, .b [32, 39, 40, 41, 43, 44, 45, 46, 47, 58, 61, 63]⟩]⟩ ?_
          refine W_block ?_
          refine Vc [] [0, 1] (rText_l11_E l0 l1 i5_2 (decide ((l1.getD i5_2.toNat 0) ≤ (57 : UInt8))) 0) (W_lp ((rText_l11_P n l0 l1 i5_2 (rText_l1 n l0 l1 fu_l1) r)) n ⟨_, _, rfl, h⟩ ?_)
          rintro fu_l11 _ ⟨p7_142, i9_196, rfl, h⟩
          cases fu_l11 with
          | zero => cases h
          | succ fu_l11 =>
           refine ⟨fu_l11, rfl, ?_⟩
           rw [rText_l11] at h
           refine W_seq ?_
           refine Vrs hT [0, 1] ⟨[(0, kU l0), (1, kH 0), (5, kI i5_2), (6, kU (l1.getD i5_2.toNat 0)), (7, kB p7_142), (8, kH 1), (9, kI i9_196), (54, kB (decide (i9_196 < (([32, 39, 40, 41, 43, 44, 45, 46, 47, 58, 61, 63].length : Nat) : Int))))], [], [ob 5 l1, nb 5 [32, 39, 40, 41, 43, 44, 45, 46, 47, 58, 61, 63]]⟩ ?_
           refine Vi ((decide (i9_196 < (([32, 39, 40, 41, 43, 44, 45, 46, 47, 58, 61, 63].length : Nat) : Int)))) (fun g69 => ?_) (fun g69 => ?_)
           ·replace h := bif_t h g69
            refine Vc [] [0, 1] ⟨[(0, kU l0), (1, kH 0), (5, kI i5_2), (6, kU (l1.getD i5_2.toNat 0)), (7, kB p7_142), (8, kH 1), (9, kI i9_196)], [], [ob 5 l1, nb 5 [32, 39, 40, 41, 43, 44, 45, 46, 47, 58, 61, 63]]⟩ (W_skip ?_)
            refine W_seq ?_
            refine W_block ?_
            rcases Bool.eq_false_or_eq_true p7_142 with g63 | g63
            ·replace h := bif_t h g63
             refine Vg hT fN [(1, true)] [] [0, 1] ⟨[(0, kU l0), (1, kH 0), (5, kI i5_2), (6, kU (l1.getD i5_2.toNat 0)), (7, kB true), (8, kH 1), (9, kI i9_196)], [], [ob 5 l1, nb 5 [32, 39, 40, 41, 43, 44, 45, 46, 47, 58, 61, 63]]⟩ (aP g63 aN) ?_
             obtain ⟨g64, h⟩ := gd_some h
             refine Vg hT fN [] [] [0, 1] (rText_l11_E l0 l1 i5_2 true (i9_196 + 1)) (aP g64 aN) ?_
             exact ⟨_, _, rfl, h⟩
            ·replace h := bif_f h g63
             obtain ⟨g65, g66, h⟩ := gd2 h
             refine Vg hT fN [(1, false)] [] [0, 1] ⟨[(0, kU l0), (1, kH 0), (5, kI i5_2), (6, kU (l1.getD i5_2.toNat 0)), (7, kB ((l1.getD i5_2.toNat 0) == ([32, 39, 40, 41, 43, 44, 45, 46, 47, 58, 61, 63].getD i9_196.toNat 0))), (8, kH 1), (9, kI i9_196)], [], [ob 5 l1, nb 5 [32, 39, 40, 41, 43, 44, 45, 46, 47, 58, 61, 63]]⟩ (aP g63 (aP g65 (aP g66 aN))) ?_
             obtain ⟨g67, h⟩ := gd_some h
             refine Vg hT fN [] [] [0, 1] (rText_l11_E l0 l1 i5_2 ((l1.getD i5_2.toNat 0) == ([32, 39, 40, 41, 43, 44, 45, 46, 47, 58, 61, 63].getD i9_196.toNat 0)) (i9_196 + 1)) (aP g67 aN) ?_
             exact ⟨_, _, rfl, h⟩
           ·replace h := bif_f h g69
            refine Vc [] [0] ⟨[(0, kU l0), (1, kH 0), (5, kI i5_2), (7, kB p7_142)], [], [ob 5 l1]⟩ (W_exit ?_)
            refine Vrs hT [0] ⟨[(0, kU l0), (1, kH 0), (5, kI i5_2), (67, kB (!p7_142))], [], [ob 5 l1]⟩ ?_
            refine Vi ((!p7_142)) (fun g68 => ?_) (fun g68 => ?_)
            ·replace h := bif_t h g68
             refine Vrs hT [] ⟨[(4, kB false)], [], []⟩ ?_
             refine Vc [] [] (rText_R false) (W_ret ?_)
             exact ⟨.inl rfl, by cases h; rfl⟩
            ·replace h := bif_f h g68
             refine Vc [] [0] (rText_j1_E l0 l1 i5_2) (W_skip ?_)
             exact ⟨rfl, h⟩
         ·replace h := bif_f h g62
          refine Vg hT fN [(2, false), (9, false), (17, false)] [] [0] ⟨[(0, kU l0), (1, kH 0), (5, kI i5_2), (6, kU (l1.getD i5_2.toNat 0)), (7, kB false)], [], [ob 5 l1]⟩ (aP g5 (aP g43 (aP g62 aN))) ?_
          refine Vrs hT [0, 1] ⟨[(0, kU l0), (1, kH 0), (5, kI i5_2), (6, kU (l1.getD i5_2.toNat 0)), (7, kB false), (8, kH 1)], [], [ob 5 l1, ⟨.row, 5, 1, 12, .b [32, 39, 40, 41, 43, 44, 45, 46, 47, 58, 61, 63]⟩]⟩ ?_
          refine W_seq ?_
          refine Vrs hT [0, 1] ⟨[(0, kU l0), (1, kH 0), (5, kI i5_2), (6, kU (l1.getD i5_2.toNat 0)), (7, kB false), (8, kH 1), (9, kI 0)], [], [ob 5 l1, ⟨.row, 5, 1, 12, .b [32, 39, 40, 41, 43, 44, 45, 46, 47, 58, 61, 63]⟩]⟩ ?_
          refine W_block ?_
          refine Vc [] [0, 1] (rText_l12_E l0 l1 i5_2 false 0) (W_lp ((rText_l12_P n l0 l1 i5_2 (rText_l1 n l0 l1 fu_l1) r)) n ⟨_, _, rfl, h⟩ ?_)
          rintro fu_l12 _ ⟨p7_143, i9_197, rfl, h⟩
          cases fu_l12 with
          | zero => cases h
          | succ fu_l12 =>
           refine ⟨fu_l12, rfl, ?_⟩
           rw [rText_l12] at h
           refine W_seq ?_
           refine Vrs hT [0, 1] ⟨[(0, kU l0), (1, kH 0), (5, kI i5_2), (6, kU (l1.getD i5_2.toNat 0)), (7, kB p7_143), (8, kH 1), (9, kI i9_197), (54, kB (decide (i9_197 < (([32, 39, 40, 41, 43, 44, 45, 46, 47, 58, 61, 63].length : Nat) : Int))))], [], [ob 5 l1, nb 5 [32, 39, 40, 41, 43, 44, 45, 46, 47, 58, 61, 63]]⟩ ?_
           refine Vi ((decide (i9_197 < (([32, 39, 40, 41, 43, 44, 45, 46, 47, 58, 61, 63].length : Nat) : Int)))) (fun g76 => ?_) (fun g76 => ?_)
           ·replace h := bif_t h g76
            refine Vc [] [0, 1] ⟨[(0, kU l0), (1, kH 0), (5, kI i5_2), (6, kU (l1.getD i5_2.toNat 0)), (7, kB p7_143), (8, kH 1), (9, kI i9_197)], [], [ob 5 l1, nb 5 [32, 39, 40, 41, 43, 44, 45, 46, 47, 58, 61, 63]]⟩ (W_skip ?_)
            refine W_seq ?_
            refine W_block ?_
            rcases Bool.eq_false_or_eq_true p7_143 with g70 | g70
            ·replace h := bif_t h g70
             refine Vg hT fN [(1, true)] [] [0, 1] ⟨[(0, kU l0), (1, kH 0), (5, kI i5_2), (6, kU (l1.getD i5_2.toNat 0)), (7, kB true), (8, kH 1), (9, kI i9_197)], [], [ob 5 l1, nb 5 [32, 39, 40, 41, 43, 44, 45, 46, 47, 58, 61, 63]]⟩ (aP g70 aN) ?_
             obtain ⟨g71, h⟩ := gd_some h
             refine Vg hT fN [] [] [0, 1] (rText_l12_E l0 l1 i5_2 true (i9_197 + 1)) (aP g71 aN) ?_
             exact ⟨_, _, rfl, h⟩
            ·replace h := bif_f h g70
             obtain ⟨g72, g73, h⟩ := gd2 h
             refine Vg hT fN [(1, false)] [] [0, 1] ⟨[(0, kU l0), (1, kH 0), (5, kI i5_2), (6, kU (l1.getD i5_2.toNat 0)), (7, kB ((l1.getD i5_2.toNat 0) == ([32, 39, 40, 41, 43, 44, 45, 46, 47, 58, 61, 63].getD i9_197.toNat 0))), (8, kH 1), (9, kI i9_197)], [], [ob 5 l1, nb 5 [32, 39, 40, 41, 43, 44, 45, 46, 47, 58, 61, 63]]⟩ (aP g70 (aP g72 (aP g73 aN))) ?_
             obtain ⟨g74, h⟩ := gd_some h
             refine Vg hT fN [] [] [0, 1] (rText_l12_E l0 l1 i5_2 ((l1.getD i5_2.toNat 0) == ([32, 39, 40, 41, 43, 44, 45, 46, 47, 58, 61, 63].getD i9_197.toNat 0)) (i9_197 + 1)) (aP g74 aN) ?_
             exact ⟨_, _, rfl, h⟩
           ·replace h := bif_f h g76
            refine Vc [] [0] ⟨[(0, kU l0), (1, kH 0), (5, kI i5_2), (7, kB p7_143)], [], [ob 5 l1]⟩ (W_exit ?_)
            refine Vrs hT [0] ⟨[(0, kU l0), (1, kH 0), (5, kI i5_2), (67, kB (!p7_143))], [], [ob 5 l1]⟩ ?_
            refine Vi ((!p7_143)) (fun g75 => ?_) (fun g75 => ?_)
            ·replace h := bif_t h g75
             refine Vrs hT [] ⟨[(4, kB false)], [], []⟩ ?_
             refine Vc [] [] (rText_R false) (W_ret ?_)
             exact ⟨.inl rfl, by cases h; rfl⟩
            ·replace h := bif_f h g75
             refine Vc [] [0] (rText_j1_E l0 l1 i5_2) (W_skip ?_)
             exact ⟨rfl, h⟩
      ·replace h := bif_f h g77
       refine Vc [] [0] (rText_j1_E l0 l1 i5_2) (W_skip ?_)
       exact ⟨rfl, h⟩
   ·replace h := bif_f h g79
    refine Vc [] [] ⟨[], [], []⟩ (W_exit ?_)
    refine Vrs hT [] ⟨[(4, kB true)], [], []⟩ ?_
    refine Vc [] [] (rText_R true) (W_ret ?_)
    exact ⟨.inl rfl, by cases h; rfl⟩
def rOid_R (r : Bool) : S := ⟨[(2, kB r)], [], []⟩
def rOid_ct (n : Nat) (r : Bool) : Ct := ctc (rW 92).rd fun _ l0 => ct0 fun H => ([rOid n l0 = some r], shA H.length (kB r), shH H.length [])
theorem rOid_ok (n : Nat) (r : Bool) : FnOk Try.prog Tr 49 (rOid_ct n r) := by
 refine fnok Try.func49 ?_
 refine HO_c (rW 92) fun l0 _ => HO_0 tabO_oa (rOid_R r) [.tmp 2] [] 29 Try.func49 fun w hG h => ?_
 unfold rOid at h
 have hT := tabO_oa
 refine Vrs hT [0] ⟨[(0, kH 0)], [], [ow 92 l0]⟩ ?_
 refine W_seq ?_
 refine W_seq ?_
 rcases Bool.eq_false_or_eq_true (decide (((l0.length : Nat) : Int) < (2 : Int))) with g1 | g1
 ·replace h := bif_t h g1
  refine Vg hT fN [(3, true)] [] [0] ⟨[(0, kH 0), (16, kB true)], [], [ow 92 l0]⟩ (aP g1 aN) ?_
  refine Vi (true) (fun _ => ?_) (fun hb => by cases hb)
  refine Vrs hT [] ⟨[(2, kB false)], [], []⟩ ?_
  refine Vc [] [] (rOid_R false) (W_ret ?_)
  exact ⟨.inl rfl, by cases h; rfl⟩
 ·replace h := bif_f h g1
  rcases Bool.eq_false_or_eq_true (decide ((16 : Int) < ((l0.length : Nat) : Int))) with g2 | g2
  ·replace h := bif_t h g2
   refine Vg hT fN [(3, false), (8, true)] [] [0] ⟨[(0, kH 0), (16, kB true)], [], [ow 92 l0]⟩ (aP g1 (aP g2 aN)) ?_
   refine Vi (true) (fun _ => ?_) (fun hb => by cases hb)
   refine Vrs hT [] ⟨[(2, kB false)], [], []⟩ ?_
   refine Vc [] [] (rOid_R false) (W_ret ?_)
   exact ⟨.inl rfl, by cases h; rfl⟩
  ·replace h := bif_f h g2
   obtain ⟨g3, g4, h⟩ := gd2 h
   refine Vg hT fN [(3, false), (8, false)] [] [0] ⟨[(0, kH 0), (16, kB (decide ((2 : UInt32) < (l0.getD 0 0))))], [], [ow 92 l0]⟩ (aP g1 (aP g2 (aP g3 (aP g4 aN)))) ?_
   refine Vi ((decide ((2 : UInt32) < (l0.getD 0 0)))) (fun g12 => ?_) (fun g12 => ?_)
   ·replace h := bif_t h g12
    refine Vrs hT [] ⟨[(2, kB false)], [], []⟩ ?_
    refine Vc [] [] (rOid_R false) (W_ret ?_)
    exact ⟨.inl rfl, by cases h; rfl⟩
   ·replace h := bif_f h g12
    refine W_skip ?_
    refine W_seq ?_
    obtain ⟨g5, g6, h⟩ := gd2 h
    refine Vgs hT fN [] [] [0] ⟨[(0, kH 0), (20, kB (decide ((l0.getD 0 0) < (2 : UInt32))))], [], [ow 92 l0]⟩ (aP g5 (aP g6 aN)) ?_
    refine Vi ((decide ((l0.getD 0 0) < (2 : UInt32)))) (fun g11 => ?_) (fun g11 => ?_)
    ·replace h := bif_t h g11
     obtain ⟨g7, g8, h⟩ := gd2 h
     refine Vgs hT fN [] [] [] ⟨[(2, kB (decide ((l0.getD 1 0) < (40 : UInt32))))], [], []⟩ (aP g7 (aP g8 aN)) ?_
     refine Vc [] [] (rOid_R (decide ((l0.getD 1 0) < (40 : UInt32)))) (W_ret ?_)
     exact ⟨.inl rfl, by cases h; rfl⟩
    ·replace h := bif_f h g11
     refine W_skip ?_
     obtain ⟨g9, g10, h⟩ := gd2 h
     refine Vgs hT fN [] [] [] ⟨[(2, kB (decide ((l0.getD 1 0) ≤ (4294967215 : UInt32))))], [], []⟩ (aP g9 (aP g10 aN)) ?_
     refine Vc [] [] (rOid_R (decide ((l0.getD 1 0) ≤ (4294967215 : UInt32)))) (W_ret ?_)
     exact ⟨.inl rfl, by cases h; rfl⟩
def rgroup_R (r : List UInt8) : S := ⟨[(2, kH 0)], [], [nb 5 r]⟩
def rgroup_ct (n : Nat) (r : List UInt8) : Ct := ctc rU32.rd fun _ l0 => ct0 fun H => ([rgroup n l0 = some r], shA H.length (kH 0), shH H.length [nb 5 r])
theorem rgroup_ok (n : Nat) : ∀ r : List UInt8, FnOk Try.prog Tr 74 (rgroup_ct n r) := by
 induction n with
 | zero =>
  intro r
  refine fnok Try.func74 ?_
  refine HO_c rU32 fun l0 _ => HO_0 tabO_oa (rgroup_R r) [.tmp 2] [0] 30 Try.func74 fun w hG h => ?_
  cases h
 | succ n ih =>
  intro r
  refine fnok Try.func74 ?_
  refine HO_c rU32 fun l0 _ => HO_0 tabO_oa (rgroup_R r) [.tmp 2] [0] 30 Try.func74 fun w hG h => ?_
  unfold rgroup at h
  have hT := tabO_oa
  refine Vrs hT [] ⟨[(0, kX l0)], [], []⟩ ?_
  refine W_seq ?_
  refine Vrs hT [] ⟨[(0, kX l0), (5, kB (decide (l0 < (128 : UInt32))))], [], []⟩ ?_
  refine Vi ((decide (l0 < (128 : UInt32)))) (fun g11 => ?_) (fun g11 => ?_)
  ·replace h := bif_t h g11
   refine Vrs hT [0] ⟨[(2, kH 0)], [], [⟨.row, 5, 1, 1, .b [l0.toUInt8]⟩]⟩ ?_
   refine Vc [] [0] (rgroup_R [l0.toUInt8]) (W_ret ?_)
   exact ⟨.inl rfl, by cases h; rfl⟩
  ·replace h := bif_f h g11
   refine W_skip ?_
   obtain ⟨g1, h⟩ := gd_some h
   obtain ⟨r11, g2, h⟩ := bind_some' h
   refine Vgs hT (fT 2 (ih r11) fN) [] [] [0] ⟨[(0, kX l0), (3, kH 0)], [], [nb 5 r11]⟩ (aP g1 (aP g2 aN)) ?_
   obtain ⟨g3, g4, g5, g6, g7, h⟩ := gd5 h
   obtain ⟨g8, h⟩ := gd_some h
   refine Vgs hT fN [] [] [0] ⟨[(0, kX l0), (3, kH 0)], [], [⟨.row, 5, 1, r11.length, .b (r11.set ((((r11.length : Nat) : Int) - 1).toNat) ((r11.getD ((((r11.length : Nat) : Int) - 1).toNat) 0) + (128 : UInt8)))⟩]⟩ (aP g3 (aP g4 (aP g5 (aP g6 (aP g7 (aP g8 aN)))))) ?_
   obtain ⟨g9, g10, h⟩ := gd2 h
   refine Vgs hT fN [] [] [2] ⟨[(2, kH 0)], [], [nb 5 ((r11.set ((((r11.length : Nat) : Int) - 1).toNat) ((r11.getD ((((r11.length : Nat) : Int) - 1).toNat) 0) + (128 : UInt8))) ++ [(l0 % (128 : UInt32)).toUInt8])]⟩ (aP g9 (aP g10 aN)) ?_
   refine Vc [] [0] (rgroup_R ((r11.set ((((r11.length : Nat) : Int) - 1).toNat) ((r11.getD ((((r11.length : Nat) : Int) - 1).toNat) 0) + (128 : UInt8))) ++ [(l0 % (128 : UInt32)).toUInt8])) (W_ret ?_)
   exact ⟨.inl rfl, by cases h; rfl⟩
def rOidBody_l1_E (a0 : List UInt32) (l3_2 : List UInt8) (i4_2 : Int) : S := ⟨[(0, kH 0), (3, kH 1), (4, kI i4_2)], [], [ow 92 a0, nb 5 l3_2]⟩
abbrev rOidBody_l1_P (n : Nat) (a0 : List UInt32) (r : List UInt8) (fu : Nat) : S → Prop := fun s => ∃ (l3_2 : List UInt8), ∃ (i4_2 : Int), s = rOidBody_l1_E a0 l3_2 i4_2 ∧ rOidBody_l1 n a0 fu l3_2 i4_2 = some r
def rOidBody_R (r : List UInt8) : S := ⟨[(2, kH 0)], [], [nb 5 r]⟩
def rOidBody_ct (n : Nat) (r : List UInt8) : Ct := ctc (rW 92).rd fun _ l0 => ct0 fun H => ([rOidBody n l0 = some r], shA H.length (kH 0), shH H.length [nb 5 r])
theorem rOidBody_ok (n : Nat) (r : List UInt8) : FnOk Try.prog Tr 51 (rOidBody_ct n r) := by
 refine fnok Try.func51 ?_
 refine HO_c (rW 92) fun l0 _ => HO_0 tabO_oa (rOidBody_R r) [.tmp 2] [0] 28 Try.func51 fun w hG h => ?_
 unfold rOidBody at h
 have hT := tabO_oa
 refine Vrs hT [0] ⟨[(0, kH 0)], [], [ow 92 l0]⟩ ?_
 obtain ⟨g1, g2, g3, g4, h⟩ := gd4 h
 obtain ⟨r13, g5, h⟩ := bind_some' h
 refine Vds hT (fT 8 (rgroup_ok n r13) fN) 7 [] [(0, false), (8, false), (11, false)] [] [0, 1] ⟨[(0, kH 0), (3, kH 1)], [], [ow 92 l0, nb 5 r13]⟩ (aP g1 (aP g2 (aP g3 (aP g4 (aP g5 aN))))) ?_
 refine W_seq ?_
 refine Vrs hT [0, 1] ⟨[(0, kH 0), (3, kH 1), (4, kI 2)], [], [ow 92 l0, nb 5 r13]⟩ ?_
 refine W_block ?_
 refine Vc [] [0, 1] (rOidBody_l1_E l0 r13 2) (W_lp ((rOidBody_l1_P n l0 r)) n ⟨_, _, rfl, h⟩ ?_)
 rintro fu_l1 _ ⟨l3_2, i4_2, rfl, h⟩
 cases fu_l1 with
 | zero => cases h
 | succ fu_l1 =>
  refine ⟨fu_l1, rfl, ?_⟩
  rw [rOidBody_l1] at h
  refine W_seq ?_
  refine Vrs hT [0, 1] ⟨[(0, kH 0), (3, kH 1), (4, kI i4_2), (17, kB (decide (i4_2 < ((l0.length : Nat) : Int))))], [], [ow 92 l0, nb 5 l3_2]⟩ ?_
  refine Vi ((decide (i4_2 < ((l0.length : Nat) : Int)))) (fun g11 => ?_) (fun g11 => ?_)
  ·replace h := bif_t h g11
   refine W_skip ?_
   refine W_seq ?_
   refine W_block ?_
   obtain ⟨g6, g7, h⟩ := gd2 h
   obtain ⟨r25_3, g8, h⟩ := bind_some' h
   obtain ⟨g9, h⟩ := gd_some h
   refine Vg hT (fT 5 (rgroup_ok n r25_3) fN) [] [] [0, 3] ⟨[(0, kH 0), (3, kH 1), (4, kI i4_2)], [], [ow 92 l0, nb 5 (l3_2 ++ r25_3)]⟩ (aP g6 (aP g7 (aP g8 (aP g9 aN)))) ?_
   obtain ⟨g10, h⟩ := gd_some h
   refine Vg hT fN [] [] [0, 1] (rOidBody_l1_E l0 (l3_2 ++ r25_3) (i4_2 + 1)) (aP g10 aN) ?_
   exact ⟨_, _, rfl, h⟩
  ·replace h := bif_f h g11
   refine Vc [] [1] ⟨[(3, kH 0)], [], [nb 5 l3_2]⟩ (W_exit ?_)
   refine Vrs hT [0] ⟨[(2, kH 0)], [], [nb 5 l3_2]⟩ ?_
   refine Vc [] [0] (rOidBody_R l3_2) (W_ret ?_)
   exact ⟨.inl rfl, by cases h; rfl⟩
end Go.Proofs.Ytobfglafchoipaa
end
