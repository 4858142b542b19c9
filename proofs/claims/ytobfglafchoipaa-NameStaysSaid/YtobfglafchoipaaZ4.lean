import Derived.Test.YtobfglafchoipaaZ3
import Derived.Test.YtobfglafchoipaaProg
import Derived.WalkKit
import Derived.Lib.Walk
import Derived.Lib.Strings
import Derived.Lib.Bytealg
import Derived.Lib.BytesEntry
import Derived.BigCall
import Derived.Shelf.RegionOpenPlain
import Derived.Lib.SliceRun
import Derived.Lib.AppendZerosOnto
set_option linter.unusedVariables false
set_option linter.unusedSimpArgs false
section
namespace Go.Proofs.Ytobfglafchoipaa
open Go.RowKit Go.Ch Go.Sx
def tabL_nra : List (TypeId × Ti) := [(3, ⟨.int .i64, 1, 8, true, some [.int .i64]⟩),
 (5, ⟨.int .u8, 1, 1, true, some [.int .u8]⟩),
 (22, ⟨.sl 5, 1, 24, false, some [.nils]⟩),
 (38, ⟨.int .i64, 1, 8, true, some [.int .i64]⟩),
 (56, ⟨.ptr 89, 1, 8, true, some [.ptr]⟩),
 (87, ⟨.sl 3, 1, 24, false, some [.nils]⟩),
 (89, ⟨.st [(22, 0), (3, 1), (87, 2)], 3, 56, false, some [.nils, .int .i64, .nils]⟩)]
def tab_nra : Tab := fun t => (tabL_nra).lookup t
theorem tabE_nra : (tabL_nra.map fun p => tiOf Try.prog p.1) = tabL_nra.map fun p => some p.2 := by kernel_rfl
theorem tabO_nra : TabOk Try.prog tab_nra := tab_of tabE_nra
def tvalid (n : Nat) (a0 : UInt8) : Option (Bool) :=
 some ((a0 &&& (31 : UInt8)) != 31)
def tisW (n : Nat) (a0 : UInt8) : Option (Bool) :=
 some ((a0 &&& (32 : UInt8)) != 0)
def thead_j1 (n : Nat) (a0 : List UInt8) (i5_1 : Int) (i6_4 : Int) : Option (Int × Int × Bool) :=
 gd (okI .i64 (((a0.length : Nat) : Int) - i5_1)) <|
 some (i5_1, i6_4, (decide (i6_4 ≤ (((a0.length : Nat) : Int) - i5_1))))
def thead_l1 (n : Nat) (a0 : List UInt8) : Nat → Int → Int → Option (Int × Int × Bool)
 | 0, _, _ => none
 | fu_l1 + 1, i6_5, i47_3 =>
 bif (decide (i47_3 < (((((2 + ((((a0.getD 1 0).toNat : Nat) : Int) - 128)).toNat) - 2) : Nat) : Int))) then
 gd (0 ≤ i47_3) <|
 gd (i47_3 < (((((2 + ((((a0.getD 1 0).toNat : Nat) : Int) - 128)).toNat) - 2) : Nat) : Int)) <|
 gd (0 ≤ (8 : Int)) <|
 gd ((8 : Int) ≤ (((IntKind.i64).bits : Nat) : Int)) <|
 gd (okI .i64 (i6_5 * 2 ^ 8)) <|
 gd (okI .i64 (i47_3 + 1)) <|
 (thead_l1 n a0 fu_l1) (bitI .or .i64 (i6_5 * 2 ^ 8) (((((a0.drop 2).take (((2 + ((((a0.getD 1 0).toNat : Nat) : Int) - 128)).toNat) - 2)).getD i47_3.toNat 0).toNat : Nat) : Int)) (i47_3 + 1)
 else
 bif (decide (i6_5 < (128 : Int))) then
 some (0, 0, false)
 else
 bif (((((a0.getD 1 0).toNat : Nat) : Int) - 128) == 2) then
 bif (decide (i6_5 < (256 : Int))) then
 some (0, 0, false)
 else
 thead_j1 n a0 (2 + ((((a0.getD 1 0).toNat : Nat) : Int) - 128)) i6_5
 else
 thead_j1 n a0 (2 + ((((a0.getD 1 0).toNat : Nat) : Int) - 128)) i6_5
def thead (n : Nat) (a0 : List UInt8) : Option (Int × Int × Bool) :=
 bif (decide (((a0.length : Nat) : Int) < (2 : Int))) then
  some (0, 0, false)
 else
  gd (0 ≤ (0 : Int)) <|
  gd ((0 : Int) < ((a0.length : Nat) : Int)) <|
  (tvalid n (a0.getD 0 0)).bind fun r17 =>
  bif (!r17) then
   some (0, 0, false)
  else
   gd (0 ≤ (1 : Int)) <|
   gd ((1 : Int) < ((a0.length : Nat) : Int)) <|
   bif (decide ((128 : Int) ≤ (((a0.getD 1 0).toNat : Nat) : Int))) then
    gd (okI .i64 ((((a0.getD 1 0).toNat : Nat) : Int) - 128)) <|
    bif (decide (((((a0.getD 1 0).toNat : Nat) : Int) - 128) < (1 : Int))) then
     some (0, 0, false)
    else
     bif (decide ((2 : Int) < ((((a0.getD 1 0).toNat : Nat) : Int) - 128))) then
      some (0, 0, false)
     else
      gd (okI .i64 (2 + ((((a0.getD 1 0).toNat : Nat) : Int) - 128))) <|
      bif (decide (((a0.length : Nat) : Int) < (2 + ((((a0.getD 1 0).toNat : Nat) : Int) - 128)))) then
       some (0, 0, false)
      else
       gd (okI .i64 (2 + ((((a0.getD 1 0).toNat : Nat) : Int) - 128))) <|
       gd (0 ≤ (2 : Int)) <|
       gd ((2 : Int) ≤ (2 + ((((a0.getD 1 0).toNat : Nat) : Int) - 128))) <|
       gd ((2 + ((((a0.getD 1 0).toNat : Nat) : Int) - 128)) ≤ ((a0.length : Nat) : Int)) <|
       thead_l1 n a0 n 0 0
   else
    thead_j1 n a0 2 (((a0.getD 1 0).toNat : Nat) : Int)
def tHead (n : Nat) (a0 : UInt8) (a1 : Int) : Option (List UInt8 × Option Int) :=
 (tvalid n a0).bind fun r8 =>
 bif (!r8) then
  some ([], (some 1))
 else
  bif (decide (a1 < (0 : Int))) then
   some ([], (some 1))
  else
   bif (decide ((65535 : Int) < a1)) then
    some ([], (some 4))
   else
    bif (decide (a1 < (128 : Int))) then
     some ([a0, (UInt8.ofInt a1)], none)
    else
     bif (decide (a1 < (256 : Int))) then
      some ([a0, 129, (UInt8.ofInt a1)], none)
     else
      gd (0 ≤ (8 : Int)) <|
      gd ((8 : Int) ≤ (((IntKind.i64).bits : Nat) : Int)) <|
      some ([a0, 130, (UInt8.ofInt (a1 / 2 ^ 8)), (UInt8.ofInt a1)], none)
def tNewR (n : Nat) (a0 : List UInt8) : Option (List UInt8 × List Int) :=
 gd ((a0).length ≤ 1000000000000) <|
 some (a0, [((a0.length : Nat) : Int)])
def tleft (n : Nat) (a0_0 : List UInt8) (a0_1 : Int) (a0_2 : List Int) : Option (Nat × Nat) :=
 gd (okI .i64 (((a0_2.length : Nat) : Int) - 1)) <|
 gd (0 ≤ (((a0_2.length : Nat) : Int) - 1)) <|
 gd ((((a0_2.length : Nat) : Int) - 1) < ((a0_2.length : Nat) : Int)) <|
 gd (0 ≤ a0_1) <|
 gd (a0_1 ≤ (a0_2.getD ((((a0_2.length : Nat) : Int) - 1).toNat) 0)) <|
 gd ((a0_2.getD ((((a0_2.length : Nat) : Int) - 1).toNat) 0) ≤ ((a0_0.length : Nat) : Int)) <|
 some (a0_1.toNat, (((a0_2.getD ((((a0_2.length : Nat) : Int) - 1).toNat) 0).toNat) - a0_1.toNat))
def tNext (n : Nat) (a0_0 : List UInt8) (a0_1 : Int) (a0_2 : List Int) : Option (UInt8 × Bool) :=
 (tleft n a0_0 a0_1 a0_2).bind fun r6 =>
 bif (((r6.2 : Nat) : Int) == 0) then
  some (0, false)
 else
  gd (0 ≤ (0 : Int)) <|
  gd ((0 : Int) < ((r6.2 : Nat) : Int)) <|
  some ((a0_0.getD (oddA r6.1 0) 0), true)
def tTake (n : Nat) (a0_0 : List UInt8) (a0_1 : Int) (a0_2 : List Int) (a1 : UInt8) : Option (Int × List UInt8 × Option Int) :=
 (tleft n a0_0 a0_1 a0_2).bind fun r11 =>
 bif (((r11.2 : Nat) : Int) == 0) then
  some (a0_1, [], (some 13))
 else
  gd (0 ≤ (0 : Int)) <|
  gd ((0 : Int) < ((r11.2 : Nat) : Int)) <|
  bif ((a0_0.getD (oddA r11.1 0) 0) != a1) then
   some (a0_1, [], (some 6))
  else
   (thead n ((a0_0.drop r11.1).take r11.2)).bind fun r26 =>
   bif (!r26.2.2) then
    some (a0_1, [], (some 2))
   else
    (tisW n a1).bind fun r34 =>
    bif r34 then
     some (a0_1, [], (some 2))
    else
     gd (okI .i64 (r26.1 + r26.2.1)) <|
     gd (okI .i64 (a0_1 + (r26.1 + r26.2.1))) <|
     gd (okI .i64 (r26.1 + r26.2.1)) <|
     gd (0 ≤ r26.1) <|
     gd (r26.1 ≤ (r26.1 + r26.2.1)) <|
     gd ((r26.1 + r26.2.1) ≤ ((r11.2 : Nat) : Int)) <|
     gd ((((a0_0.drop (oddA r11.1 r26.1.toNat)).take (((r26.1 + r26.2.1).toNat) - r26.1.toNat))).length ≤ 1000000000000) <|
     some ((a0_1 + (r26.1 + r26.2.1)), ((a0_0.drop (oddA r11.1 r26.1.toNat)).take (((r26.1 + r26.2.1).toNat) - r26.1.toNat)), none)
def tEnter (n : Nat) (a0_0 : List UInt8) (a0_1 : Int) (a0_2 : List Int) (a1 : UInt8) : Option (Int × List Int × Option Int) :=
 (tleft n a0_0 a0_1 a0_2).bind fun r10 =>
 bif (((r10.2 : Nat) : Int) == 0) then
  some (a0_1, a0_2, (some 13))
 else
  gd (0 ≤ (0 : Int)) <|
  gd ((0 : Int) < ((r10.2 : Nat) : Int)) <|
  bif ((a0_0.getD (oddA r10.1 0) 0) != a1) then
   some (a0_1, a0_2, (some 6))
  else
   (thead n ((a0_0.drop r10.1).take r10.2)).bind fun r25 =>
   bif (!r25.2.2) then
    some (a0_1, a0_2, (some 2))
   else
    (tisW n a1).bind fun r34 =>
    bif (!r34) then
     some (a0_1, a0_2, (some 2))
    else
     bif (decide ((24 : Int) < ((a0_2.length : Nat) : Int))) then
      some (a0_1, a0_2, (some 5))
     else
      gd (okI .i64 (a0_1 + r25.1)) <|
      gd (okI .i64 ((a0_1 + r25.1) + r25.2.1)) <|
      gd (rmB (a0_2.length + 1) 8) <|
      some ((a0_1 + r25.1), (a0_2 ++ [((a0_1 + r25.1) + r25.2.1)]), none)
def tLeave (n : Nat) (a0_0 : List UInt8) (a0_1 : Int) (a0_2 : List Int) : Option (List Int × Option Int) :=
 bif (((a0_2.length : Nat) : Int) == 1) then
  some (a0_2, (some 17))
 else
  (tleft n a0_0 a0_1 a0_2).bind fun r13 =>
  bif (decide ((0 : Int) < ((r13.2 : Nat) : Int))) then
   some (a0_2, (some 3))
  else
   gd (okI .i64 (((a0_2.length : Nat) : Int) - 1)) <|
   gd (0 ≤ (((a0_2.length : Nat) : Int) - 1)) <|
   gd ((((a0_2.length : Nat) : Int) - 1) ≤ ((a0_2.length : Nat) : Int)) <|
   some ((a0_2.take ((((a0_2.length : Nat) : Int) - 1).toNat)), none)
def tEnd (n : Nat) (a0_0 : List UInt8) (a0_1 : Int) (a0_2 : List Int) : Option (Option Int) :=
 bif (decide ((1 : Int) < ((a0_2.length : Nat) : Int))) then
  some (some 17)
 else
  (tleft n a0_0 a0_1 a0_2).bind fun r13 =>
  bif (decide ((0 : Int) < ((r13.2 : Nat) : Int))) then
   some (some 3)
  else
   some none
def tvalid_R (r : Bool) : S := ⟨[(2, kB r)], [], []⟩
def tvalid_ct (n : Nat) (r : Bool) : Ct := ctc rU8.rd fun _ l0 => ct0 fun H => ([tvalid n l0 = some r], shA H.length (kB r), shH H.length [])
theorem tvalid_ok (n : Nat) (r : Bool) : FnOk Try.prog Tr 48 (tvalid_ct n r) := by
 refine fnok Try.func48 ?_
 refine HO_c rU8 fun l0 _ => HO_0 tabO_nra (tvalid_R r) [.tmp 2] [] 6 Try.func48 fun w hG h => ?_
 unfold tvalid at h
 have hT := tabO_nra
 refine Vrs hT [] ⟨[(0, kU l0)], [], []⟩ ?_
 refine Vrs hT [] ⟨[(2, kB ((l0 &&& (31 : UInt8)) != 31))], [], []⟩ ?_
 refine Vc [] [] (tvalid_R ((l0 &&& (31 : UInt8)) != 31)) (W_ret ?_)
 exact ⟨.inl rfl, by cases h; rfl⟩
def tisW_R (r : Bool) : S := ⟨[(2, kB r)], [], []⟩
def tisW_ct (n : Nat) (r : Bool) : Ct := ctc rU8.rd fun _ l0 => ct0 fun H => ([tisW n l0 = some r], shA H.length (kB r), shH H.length [])
theorem tisW_ok (n : Nat) (r : Bool) : FnOk Try.prog Tr 70 (tisW_ct n r) := by
 refine fnok Try.func70 ?_
 refine HO_c rU8 fun l0 _ => HO_0 tabO_nra (tisW_R r) [.tmp 2] [] 6 Try.func70 fun w hG h => ?_
 unfold tisW at h
 have hT := tabO_nra
 refine Vrs hT [] ⟨[(0, kU l0)], [], []⟩ ?_
 refine Vrs hT [] ⟨[(2, kB ((l0 &&& (32 : UInt8)) != 0))], [], []⟩ ?_
 refine Vc [] [] (tisW_R ((l0 &&& (32 : UInt8)) != 0)) (W_ret ?_)
 exact ⟨.inl rfl, by cases h; rfl⟩
def thead_j1_E (a0 : List UInt8) (i5_1 : Int) (i6_4 : Int) : S := ⟨[(0, kH 0), (5, kI i5_1), (6, kI i6_4)], [], [ob 5 a0]⟩
abbrev thead_j1_P (n : Nat) (a0 : List UInt8) (r : Int × Int × Bool) : S → Prop := fun s => ∃ (i5_1 : Int), ∃ (i6_4 : Int), s = thead_j1_E a0 i5_1 i6_4 ∧ thead_j1 n a0 i5_1 i6_4 = some r
def thead_l1_E (a0 : List UInt8) (i6_5 : Int) (i47_3 : Int) : S := ⟨[(0, kH 0), (5, kI (2 + ((((a0.getD 1 0).toNat : Nat) : Int) - 128))), (6, kI i6_5), (7, kI ((((a0.getD 1 0).toNat : Nat) : Int) - 128)), (45, kH 1), (46, kI (((((2 + ((((a0.getD 1 0).toNat : Nat) : Int) - 128)).toNat) - 2) : Nat) : Int)), (47, kI i47_3)], [], [ob 5 a0, ⟨(.ro false), 5, 1, (((2 + ((((a0.getD 1 0).toNat : Nat) : Int) - 128)).toNat) - 2), .b ((a0.drop 2).take (((2 + ((((a0.getD 1 0).toNat : Nat) : Int) - 128)).toNat) - 2))⟩]⟩
abbrev thead_l1_P (n : Nat) (a0 : List UInt8) (r : Int × Int × Bool) (fu : Nat) : S → Prop := fun s => ∃ (i6_5 : Int), ∃ (i47_3 : Int), s = thead_l1_E a0 i6_5 i47_3 ∧ thead_l1 n a0 fu i6_5 i47_3 = some r
def thead_R (r : Int × Int × Bool) : S := ⟨[(2, kI r.1), (3, kI r.2.1), (4, kB r.2.2)], [], []⟩
def thead_ct (n : Nat) (r : Int × Int × Bool) : Ct := ctc (rB 5).rd fun _ l0 => ct0 fun H => ([thead n l0 = some r], shA H.length (.t [.c (.s (.k .i64 r.1)), .c (.s (.k .i64 r.2.1)), .c (.s (.b r.2.2))]), shH H.length [])
theorem thead_ok (n : Nat) (r : Int × Int × Bool) : FnOk Try.prog Tr 76 (thead_ct n r) := by
 refine fnok Try.func76 ?_
 refine HO_c (rB 5) fun l0 _ => HO_0 tabO_nra (thead_R r) [.tmp 2, .tmp 3, .tmp 4] [] 75 Try.func76 fun w hG h => ?_
 unfold thead at h
 have hT := tabO_nra
 refine Vrs hT [0] ⟨[(0, kH 0)], [], [ob 5 l0]⟩ ?_
 refine W_seq ?_
 refine W_seq ?_
 rcases Bool.eq_false_or_eq_true (decide (((l0.length : Nat) : Int) < (2 : Int))) with g1 | g1
 ·replace h := bif_t h g1
  refine Vg hT fN [(3, true)] [] [0] ⟨[(0, kH 0), (19, kB true)], [], [ob 5 l0]⟩ (aP g1 aN) ?_
  refine Vi (true) (fun _ => ?_) (fun hb => by cases hb)
  refine Vrs hT [] ⟨[(2, kI 0), (3, kI 0), (4, kB false)], [], []⟩ ?_
  refine Vc [] [] (thead_R (0, 0, false)) (W_ret ?_)
  exact ⟨.inl rfl, by cases h; rfl⟩
 ·replace h := bif_f h g1
  obtain ⟨g2, g3, h⟩ := gd2 h
  obtain ⟨r17, g4, h⟩ := bind_some' h
  refine Vg hT (fT 7 (tvalid_ok n r17) fN) [(3, false)] [] [0] ⟨[(0, kH 0), (19, kB (!r17))], [], [ob 5 l0]⟩ (aP g1 (aP g2 (aP g3 (aP g4 aN)))) ?_
  refine Vi ((!r17)) (fun g28 => ?_) (fun g28 => ?_)
  ·replace h := bif_t h g28
   refine Vrs hT [] ⟨[(2, kI 0), (3, kI 0), (4, kB false)], [], []⟩ ?_
   refine Vc [] [] (thead_R (0, 0, false)) (W_ret ?_)
   exact ⟨.inl rfl, by cases h; rfl⟩
  ·replace h := bif_f h g28
   refine W_skip ?_
   obtain ⟨g5, g6, h⟩ := gd2 h
   refine Vds hT fN 5 [] [(0, false), (5, false), (23, false)] [] [0] ⟨[(0, kH 0), (5, kI 2), (6, kI (((l0.getD 1 0).toNat : Nat) : Int))], [], [ob 5 l0]⟩ (aP g5 (aP g6 aN)) ?_
   refine W_join (thead_j1_P n l0 r) ?_ ?_
   ·rintro _ ⟨i5_1, i6_4, rfl, h⟩
    unfold thead_j1 at h
    obtain ⟨g7, h⟩ := gd_some h
    refine Vgs hT fN [] [] [] ⟨[(2, kI i5_1), (3, kI i6_4), (4, kB (decide (i6_4 ≤ (((l0.length : Nat) : Int) - i5_1))))], [], []⟩ (aP g7 aN) ?_
    refine Vc [] [] (thead_R (i5_1, i6_4, (decide (i6_4 ≤ (((l0.length : Nat) : Int) - i5_1))))) (W_ret ?_)
    exact ⟨.inl rfl, by cases h; rfl⟩
   ·refine W_seq ?_
    refine Vr hT [0] ⟨[(0, kH 0), (5, kI 2), (6, kI (((l0.getD 1 0).toNat : Nat) : Int)), (25, kB (decide ((128 : Int) ≤ (((l0.getD 1 0).toNat : Nat) : Int))))], [], [ob 5 l0]⟩ ?_
    refine Vi ((decide ((128 : Int) ≤ (((l0.getD 1 0).toNat : Nat) : Int)))) (fun g27 => ?_) (fun g27 => ?_)
    ·replace h := bif_t h g27
     obtain ⟨g8, h⟩ := gd_some h
     refine Vgs hT fN [] [] [0] ⟨[(0, kH 0), (7, kI ((((l0.getD 1 0).toNat : Nat) : Int) - 128))], [], [ob 5 l0]⟩ (aP g8 aN) ?_
     refine W_seq ?_
     refine W_seq ?_
     rcases Bool.eq_false_or_eq_true (decide (((((l0.getD 1 0).toNat : Nat) : Int) - 128) < (1 : Int))) with g9 | g9
     ·replace h := bif_t h g9
      refine Vg hT fN [(2, true)] [] [0] ⟨[(0, kH 0), (7, kI ((((l0.getD 1 0).toNat : Nat) : Int) - 128)), (40, kB true)], [], [ob 5 l0]⟩ (aP g9 aN) ?_
      refine Vi (true) (fun _ => ?_) (fun hb => by cases hb)
      refine Vrs hT [] ⟨[(2, kI 0), (3, kI 0), (4, kB false)], [], []⟩ ?_
      refine Vc [] [] (thead_R (0, 0, false)) (W_ret ?_)
      exact ⟨.inl rfl, by cases h; rfl⟩
     ·replace h := bif_f h g9
      rcases Bool.eq_false_or_eq_true (decide ((2 : Int) < ((((l0.getD 1 0).toNat : Nat) : Int) - 128))) with g10 | g10
      ·replace h := bif_t h g10
       refine Vg hT fN [(2, false), (6, true)] [] [0] ⟨[(0, kH 0), (7, kI ((((l0.getD 1 0).toNat : Nat) : Int) - 128)), (40, kB true)], [], [ob 5 l0]⟩ (aP g9 (aP g10 aN)) ?_
       refine Vi (true) (fun _ => ?_) (fun hb => by cases hb)
       refine Vrs hT [] ⟨[(2, kI 0), (3, kI 0), (4, kB false)], [], []⟩ ?_
       refine Vc [] [] (thead_R (0, 0, false)) (W_ret ?_)
       exact ⟨.inl rfl, by cases h; rfl⟩
      ·replace h := bif_f h g10
       obtain ⟨g11, h⟩ := gd_some h
       refine Vg hT fN [(2, false), (6, false)] [] [0] ⟨[(0, kH 0), (7, kI ((((l0.getD 1 0).toNat : Nat) : Int) - 128)), (40, kB (decide (((l0.length : Nat) : Int) < (2 + ((((l0.getD 1 0).toNat : Nat) : Int) - 128)))))], [], [ob 5 l0]⟩ (aP g9 (aP g10 (aP g11 aN))) ?_
       refine Vi ((decide (((l0.length : Nat) : Int) < (2 + ((((l0.getD 1 0).toNat : Nat) : Int) - 128))))) (fun g26 => ?_) (fun g26 => ?_)
       ·replace h := bif_t h g26
        refine Vrs hT [] ⟨[(2, kI 0), (3, kI 0), (4, kB false)], [], []⟩ ?_
        refine Vc [] [] (thead_R (0, 0, false)) (W_ret ?_)
        exact ⟨.inl rfl, by cases h; rfl⟩
       ·replace h := bif_f h g26
        refine W_skip ?_
        obtain ⟨g12, h⟩ := gd_some h
        refine Vgs hT fN [] [] [0] ⟨[(0, kH 0), (5, kI (2 + ((((l0.getD 1 0).toNat : Nat) : Int) - 128))), (6, kI 0), (7, kI ((((l0.getD 1 0).toNat : Nat) : Int) - 128))], [], [ob 5 l0]⟩ (aP g12 aN) ?_
        refine W_seq ?_
        obtain ⟨g13, g14, g15, h⟩ := gd3 h
        refine Vgs hT fN [] [] [0] ⟨[(0, kH 0), (5, kI (2 + ((((l0.getD 1 0).toNat : Nat) : Int) - 128))), (6, kI 0), (7, kI ((((l0.getD 1 0).toNat : Nat) : Int) - 128)), (45, .c (.sl 0 2 (((2 + ((((l0.getD 1 0).toNat : Nat) : Int) - 128)).toNat) - 2))), (46, kI (((((2 + ((((l0.getD 1 0).toNat : Nat) : Int) - 128)).toNat) - 2) : Nat) : Int)), (47, kI 0)], [], [ob 5 l0]⟩ (aP g13 (aP g14 (aP g15 aN))) ?_
        refine W_block ?_
        refine Vc [.vw 45 false] [0, 1] (thead_l1_E l0 0 0) (W_lp ((thead_l1_P n l0 r)) n ⟨_, _, rfl, h⟩ ?_)
        rintro fu_l1 _ ⟨i6_5, i47_3, rfl, h⟩
        cases fu_l1 with
        | zero => cases h
        | succ fu_l1 =>
         refine ⟨fu_l1, rfl, ?_⟩
         rw [thead_l1] at h
         refine Vrs hT [0, 1] ⟨[(0, kH 0), (5, kI (2 + ((((l0.getD 1 0).toNat : Nat) : Int) - 128))), (6, kI i6_5), (7, kI ((((l0.getD 1 0).toNat : Nat) : Int) - 128)), (45, kH 1), (46, kI (((((2 + ((((l0.getD 1 0).toNat : Nat) : Int) - 128)).toNat) - 2) : Nat) : Int)), (47, kI i47_3), (48, kB (decide (i47_3 < (((((2 + ((((l0.getD 1 0).toNat : Nat) : Int) - 128)).toNat) - 2) : Nat) : Int))))], [], [ob 5 l0, ⟨(.ro false), 5, 1, (((2 + ((((l0.getD 1 0).toNat : Nat) : Int) - 128)).toNat) - 2), .b ((l0.drop 2).take (((2 + ((((l0.getD 1 0).toNat : Nat) : Int) - 128)).toNat) - 2))⟩]⟩ ?_
         refine W_seq ?_
         refine Vi ((decide (i47_3 < (((((2 + ((((l0.getD 1 0).toNat : Nat) : Int) - 128)).toNat) - 2) : Nat) : Int)))) (fun g25 => ?_) (fun g25 => ?_)
         ·replace h := bif_t h g25
          refine W_skip ?_
          refine W_seq ?_
          refine W_block ?_
          obtain ⟨g16, g17, h⟩ := gd2 h
          refine Vgs hT fN [] [] [0, 1] ⟨[(0, kH 0), (5, kI (2 + ((((l0.getD 1 0).toNat : Nat) : Int) - 128))), (6, kI i6_5), (7, kI ((((l0.getD 1 0).toNat : Nat) : Int) - 128)), (9, kU (((l0.drop 2).take (((2 + ((((l0.getD 1 0).toNat : Nat) : Int) - 128)).toNat) - 2)).getD i47_3.toNat 0)), (45, kH 1), (46, kI (((((2 + ((((l0.getD 1 0).toNat : Nat) : Int) - 128)).toNat) - 2) : Nat) : Int)), (47, kI i47_3)], [], [ob 5 l0, ⟨(.ro false), 5, 1, (((2 + ((((l0.getD 1 0).toNat : Nat) : Int) - 128)).toNat) - 2), .b ((l0.drop 2).take (((2 + ((((l0.getD 1 0).toNat : Nat) : Int) - 128)).toNat) - 2))⟩]⟩ (aP g16 (aP g17 aN)) ?_
          obtain ⟨g18, g19, g20, h⟩ := gd3 h
          refine Vg hT fN [] [] [0, 1] ⟨[(0, kH 0), (5, kI (2 + ((((l0.getD 1 0).toNat : Nat) : Int) - 128))), (6, kI (bitI .or .i64 (i6_5 * 2 ^ 8) (((((l0.drop 2).take (((2 + ((((l0.getD 1 0).toNat : Nat) : Int) - 128)).toNat) - 2)).getD i47_3.toNat 0).toNat : Nat) : Int))), (7, kI ((((l0.getD 1 0).toNat : Nat) : Int) - 128)), (45, kH 1), (46, kI (((((2 + ((((l0.getD 1 0).toNat : Nat) : Int) - 128)).toNat) - 2) : Nat) : Int)), (47, kI i47_3)], [], [ob 5 l0, ⟨(.ro false), 5, 1, (((2 + ((((l0.getD 1 0).toNat : Nat) : Int) - 128)).toNat) - 2), .b ((l0.drop 2).take (((2 + ((((l0.getD 1 0).toNat : Nat) : Int) - 128)).toNat) - 2))⟩]⟩ (aP g18 (aP g19 (aP g20 aN))) ?_
          obtain ⟨g21, h⟩ := gd_some h
          refine Vg hT fN [] [] [0, 1] (thead_l1_E l0 (bitI .or .i64 (i6_5 * 2 ^ 8) (((((l0.drop 2).take (((2 + ((((l0.getD 1 0).toNat : Nat) : Int) - 128)).toNat) - 2)).getD i47_3.toNat 0).toNat : Nat) : Int)) (i47_3 + 1)) (aP g21 aN) ?_
          exact ⟨_, _, rfl, h⟩
         ·replace h := bif_f h g25
          refine Vc [] [0] ⟨[(0, kH 0), (5, kI (2 + ((((l0.getD 1 0).toNat : Nat) : Int) - 128))), (6, kI i6_5), (7, kI ((((l0.getD 1 0).toNat : Nat) : Int) - 128))], [], [ob 5 l0]⟩ (W_exit ?_)
          refine W_seq ?_
          rcases Bool.eq_false_or_eq_true (decide (i6_5 < (128 : Int))) with g22 | g22
          ·replace h := bif_t h g22
           refine Vg hT fN [(2, true)] [] [0] ⟨[(0, kH 0), (5, kI (2 + ((((l0.getD 1 0).toNat : Nat) : Int) - 128))), (6, kI i6_5), (66, kB true)], [], [ob 5 l0]⟩ (aP g22 aN) ?_
           refine Vi (true) (fun _ => ?_) (fun hb => by cases hb)
           refine Vrs hT [] ⟨[(2, kI 0), (3, kI 0), (4, kB false)], [], []⟩ ?_
           refine Vc [] [] (thead_R (0, 0, false)) (W_ret ?_)
           exact ⟨.inl rfl, by cases h; rfl⟩
          ·replace h := bif_f h g22
           rcases Bool.eq_false_or_eq_true (((((l0.getD 1 0).toNat : Nat) : Int) - 128) == 2) with g23 | g23
           ·replace h := bif_t h g23
            refine Vg hT fN [(2, false), (5, true)] [] [0] ⟨[(0, kH 0), (5, kI (2 + ((((l0.getD 1 0).toNat : Nat) : Int) - 128))), (6, kI i6_5), (66, kB (decide (i6_5 < (256 : Int))))], [], [ob 5 l0]⟩ (aP g22 (aP g23 aN)) ?_
            refine Vi ((decide (i6_5 < (256 : Int)))) (fun g24 => ?_) (fun g24 => ?_)
            ·replace h := bif_t h g24
             refine Vrs hT [] ⟨[(2, kI 0), (3, kI 0), (4, kB false)], [], []⟩ ?_
             refine Vc [] [] (thead_R (0, 0, false)) (W_ret ?_)
             exact ⟨.inl rfl, by cases h; rfl⟩
            ·replace h := bif_f h g24
             refine Vc [] [0] (thead_j1_E l0 (2 + ((((l0.getD 1 0).toNat : Nat) : Int) - 128)) i6_5) (W_skip ?_)
             exact ⟨_, _, rfl, h⟩
           ·replace h := bif_f h g23
            refine Vg hT fN [(2, false), (5, false)] [] [0] ⟨[(0, kH 0), (5, kI (2 + ((((l0.getD 1 0).toNat : Nat) : Int) - 128))), (6, kI i6_5), (66, kB false)], [], [ob 5 l0]⟩ (aP g22 (aP g23 aN)) ?_
            refine Vi (false) (fun hb => by cases hb) (fun _ => ?_)
            refine Vc [] [0] (thead_j1_E l0 (2 + ((((l0.getD 1 0).toNat : Nat) : Int) - 128)) i6_5) (W_skip ?_)
            exact ⟨_, _, rfl, h⟩
    ·replace h := bif_f h g27
     refine Vc [] [0] (thead_j1_E l0 2 (((l0.getD 1 0).toNat : Nat) : Int)) (W_skip ?_)
     exact ⟨_, _, rfl, h⟩
def tHead_R (r : List UInt8 × Option Int) : S := ⟨[(4, kH 0), (5, kE 38 r.2)], [], [nb 5 r.1]⟩
def tHead_ct (n : Nat) (r : List UInt8 × Option Int) : Ct := ctc rU8.rd fun _ l0 => ctc rI.rd fun _ l1 => ct0 fun H => ([tHead n l0 l1 = some r], shA H.length (.t [.c (.wh 0), .c (.s (.er 38 .i64 r.2))]), shH H.length [nb 5 r.1])
theorem tHead_ok (n : Nat) (r : List UInt8 × Option Int) : FnOk Try.prog Tr 28 (tHead_ct n r) := by
 refine fnok Try.func28 ?_
 refine HO_c rU8 fun l0 _ => HO_c rI fun l1 _ => HO_0 tabO_nra (tHead_R r) [.tmp 4, .tmp 5] [0] 40 Try.func28 fun w hG h => ?_
 unfold tHead at h
 have hT := tabO_nra
 refine Vrs hT [] ⟨[(0, kU l0), (1, kI l1)], [], []⟩ ?_
 refine W_seq ?_
 refine W_block ?_
 refine W_seq ?_
 obtain ⟨r8, g1, h⟩ := bind_some' h
 rcases Bool.eq_false_or_eq_true (!r8) with g2 | g2
 ·replace h := bif_t h g2
  refine Vg hT (fT 1 (tvalid_ok n r8) fN) [(3, true)] [] [] ⟨[(0, kU l0), (1, kI l1), (6, kB true)], [], []⟩ (aP g1 (aP g2 aN)) ?_
  refine Vi (true) (fun _ => ?_) (fun hb => by cases hb)
  refine Vrs hT [] ⟨[(4, .c (.nils)), (5, kE 38 (some 1))], [], []⟩ ?_
  refine Vc [.nil 4 5 1 (.b [])] [0] (tHead_R ([], (some 1))) (W_ret ?_)
  exact ⟨.inl rfl, by cases h; rfl⟩
 ·replace h := bif_f h g2
  refine Vg hT (fT 1 (tvalid_ok n r8) fN) [(3, false)] [] [] ⟨[(0, kU l0), (1, kI l1), (6, kB (decide (l1 < (0 : Int))))], [], []⟩ (aP g1 (aP g2 aN)) ?_
  refine Vi ((decide (l1 < (0 : Int)))) (fun g8 => ?_) (fun g8 => ?_)
  ·replace h := bif_t h g8
   refine Vrs hT [] ⟨[(4, .c (.nils)), (5, kE 38 (some 1))], [], []⟩ ?_
   refine Vc [.nil 4 5 1 (.b [])] [0] (tHead_R ([], (some 1))) (W_ret ?_)
   exact ⟨.inl rfl, by cases h; rfl⟩
  ·replace h := bif_f h g8
   refine Vrs hT [] ⟨[(0, kU l0), (1, kI l1), (15, kB (decide ((65535 : Int) < l1)))], [], []⟩ ?_
   refine Vi ((decide ((65535 : Int) < l1))) (fun g7 => ?_) (fun g7 => ?_)
   ·replace h := bif_t h g7
    refine Vrs hT [] ⟨[(4, .c (.nils)), (5, kE 38 (some 4))], [], []⟩ ?_
    refine Vc [.nil 4 5 1 (.b [])] [0] (tHead_R ([], (some 4))) (W_ret ?_)
    exact ⟨.inl rfl, by cases h; rfl⟩
   ·replace h := bif_f h g7
    refine Vrs hT [] ⟨[(0, kU l0), (1, kI l1), (19, kB (decide (l1 < (128 : Int))))], [], []⟩ ?_
    refine Vi ((decide (l1 < (128 : Int)))) (fun g6 => ?_) (fun g6 => ?_)
    ·replace h := bif_t h g6
     refine Vrs hT [0] ⟨[(4, kH 0), (5, .c (.s (.v .nilIface)))], [], [⟨.row, 5, 1, 2, .b [l0, (UInt8.ofInt l1)]⟩]⟩ ?_
     refine Vc [.er 5 38 .i64] [0] (tHead_R ([l0, (UInt8.ofInt l1)], none)) (W_ret ?_)
     exact ⟨.inl rfl, by cases h; rfl⟩
    ·replace h := bif_f h g6
     refine Vrs hT [] ⟨[(0, kU l0), (1, kI l1), (26, kB (decide (l1 < (256 : Int))))], [], []⟩ ?_
     refine Vi ((decide (l1 < (256 : Int)))) (fun g5 => ?_) (fun g5 => ?_)
     ·replace h := bif_t h g5
      refine Vrs hT [0] ⟨[(4, kH 0), (5, .c (.s (.v .nilIface)))], [], [⟨.row, 5, 1, 3, .b [l0, 129, (UInt8.ofInt l1)]⟩]⟩ ?_
      refine Vc [.er 5 38 .i64] [0] (tHead_R ([l0, 129, (UInt8.ofInt l1)], none)) (W_ret ?_)
      exact ⟨.inl rfl, by cases h; rfl⟩
     ·replace h := bif_f h g5
      refine W_skip ?_
      obtain ⟨g3, g4, h⟩ := gd2 h
      refine Vgs hT fN [] [] [0] ⟨[(4, kH 0), (5, .c (.s (.v .nilIface)))], [], [⟨.row, 5, 1, 4, .b [l0, 130, (UInt8.ofInt (l1 / 2 ^ 8)), (UInt8.ofInt l1)]⟩]⟩ (aP g3 (aP g4 aN)) ?_
      refine Vc [.er 5 38 .i64] [0] (tHead_R ([l0, 130, (UInt8.ofInt (l1 / 2 ^ 8)), (UInt8.ofInt l1)], none)) (W_ret ?_)
      exact ⟨.inl rfl, by cases h; rfl⟩
def tNewR_R (r : List UInt8 × List Int) : S := ⟨[(2, kP 0 0)], [], [⟨.blk, 89, 1, 3, .c [.wh 1, .s (.k .i64 0), .wh 2]⟩, nb 5 r.1, nz 3 r.2]⟩
def tNewR_ct (n : Nat) (r : List UInt8 × List Int) : Ct := ctc (rB 5).rd fun _ l0 => ct0 fun H => ([tNewR n l0 = some r], shA H.length (kP 0 0), shH H.length [⟨.blk, 89, 1, 3, .c [.wh 1, .s (.k .i64 0), .wh 2]⟩, nb 5 r.1, nz 3 r.2])
theorem tNewR_ok (n : Nat) (r : List UInt8 × List Int) : FnOk Try.prog Tr 32 (tNewR_ct n r) := by
 refine fnok Try.func32 ?_
 refine HO_c (rB 5) fun l0 _ => HO_0 tabO_nra (tNewR_R r) [.tmp 2] [0, 1, 2] 10 Try.func32 fun w hG h => ?_
 unfold tNewR at h
 have hT := tabO_nra
 refine Vrs hT [0] ⟨[(0, kH 0)], [], [ob 5 l0]⟩ ?_
 obtain ⟨g1, h⟩ := gd_some h
 refine Vgs hT (fT 1 cloneb_h fN) [] [] [3, 1, 2] ⟨[(2, kP 0 0)], [], [⟨.blk, 89, 1, 3, .c [.wh 1, .s (.k .i64 0), .wh 2]⟩, nb 5 l0, ⟨.row, 3, 1, 1, .z [((l0.length : Nat) : Int)]⟩]⟩ (aP g1 aN) ?_
 refine Vc [] [0, 1, 2] (tNewR_R (l0, [((l0.length : Nat) : Int)])) (W_ret ?_)
 exact ⟨.inl rfl, by cases h; rfl⟩
def tleft_R (a0_0 : List UInt8) (a0_1 : Int) (a0_2 : List Int) (r : Nat × Nat) : S := ⟨[(2, .c (.sl 1 r.1 r.2))], [(1000000, kP 0 0)], [⟨.blk, 89, 1, 3, .c [.wh 1, .s (.k .i64 a0_1), .wh 2]⟩, nb 5 a0_0, nz 3 a0_2]⟩
def tleft_ct (n : Nat) (r : Nat × Nat) : CtM := ctM (cmm (mP 89 (mC (mB 5) (mC mI (mC (mZ 3) mN)))) fun y0 => cmR (tleft n y0.1 y0.2.1 y0.2.2.1 = some r) (.c (.sl 0 r.1 r.2)) [⟨.blk, 89, 1, 3, .c [.wh 0, .s (.k .i64 y0.2.1), .wh 1]⟩] [nb 5 y0.1, nz 3 y0.2.2.1])
theorem tleft_ok (n : Nat) (r : Nat × Nat) : FnMOk Try.prog 75 (tleft_ct n r) := by
 refine fnokM Try.func75 ?_
 refine HM_m (mP 89 (mC (mB 5) (mC mI (mC (mZ 3) mN)))) (fun (p0 : ((List UInt8) × (Int) × (List Int) × Unit)) => ?_) (allOwn_ok rfl)
 obtain ⟨l0_0, l0_1, l0_2, _⟩ := p0
 refine HM_0 tabO_nra (tleft_R l0_0 l0_1 l0_2 r) [.tmp 2] [0, 1, 2] 24 1 Try.func75 fun w bs h => ?_
 have h : tleft n l0_0 l0_1 l0_2 = some r := h
 unfold tleft at h
 have hT := tabO_nra
 refine Vrs hT [0, 1, 2] ⟨[(0, kP 0 0)], [(1000000, kP 0 0)], [⟨.blk, 89, 1, 3, .c [.wh 1, .s (.k .i64 l0_1), .wh 2]⟩, nb 5 l0_0, nz 3 l0_2]⟩ ?_
 obtain ⟨g1, g2, g3, g4, g5, h⟩ := gd5 h
 obtain ⟨g6, h⟩ := gd_some h
 refine Vds hT fN 20 [] [(6, false), (10, false), (22, false)] [] [0, 1, 2] ⟨[(2, .c (.sl 1 l0_1.toNat (((l0_2.getD ((((l0_2.length : Nat) : Int) - 1).toNat) 0).toNat) - l0_1.toNat)))], [(1000000, kP 0 0)], [⟨.blk, 89, 1, 3, .c [.wh 1, .s (.k .i64 l0_1), .wh 2]⟩, nb 5 l0_0, nz 3 l0_2]⟩ (aP g1 (aP g2 (aP g3 (aP g4 (aP g5 (aP g6 aN)))))) ?_
 refine Vc [] [0, 1, 2] (tleft_R l0_0 l0_1 l0_2 (l0_1.toNat, (((l0_2.getD ((((l0_2.length : Nat) : Int) - 1).toNat) 0).toNat) - l0_1.toNat))) (W_ret ?_)
 exact ⟨.inl rfl, by cases h; rfl⟩
def tNext_R (a0_0 : List UInt8) (a0_1 : Int) (a0_2 : List Int) (r : UInt8 × Bool) : S := ⟨[(2, kU r.1), (3, kB r.2)], [(1000000, kP 0 0)], [⟨.blk, 89, 1, 3, .c [.wh 1, .s (.k .i64 a0_1), .wh 2]⟩, nb 5 a0_0, nz 3 a0_2]⟩
def tNext_ct (n : Nat) (r : UInt8 × Bool) : CtM := ctM (cmm (mP 89 (mC (mB 5) (mC mI (mC (mZ 3) mN)))) fun y0 => cmR (tNext n y0.1 y0.2.1 y0.2.2.1 = some r) (.t [.c (.s (.u8 r.1)), .c (.s (.b r.2))]) [⟨.blk, 89, 1, 3, .c [.wh 0, .s (.k .i64 y0.2.1), .wh 1]⟩] [nb 5 y0.1, nz 3 y0.2.2.1])
theorem tNext_ok (n : Nat) (r : UInt8 × Bool) : FnMOk Try.prog 54 (tNext_ct n r) := by
 refine fnokM Try.func54 ?_
 refine HM_m (mP 89 (mC (mB 5) (mC mI (mC (mZ 3) mN)))) (fun (p0 : ((List UInt8) × (Int) × (List Int) × Unit)) => ?_) (allOwn_ok rfl)
 obtain ⟨l0_0, l0_1, l0_2, _⟩ := p0
 refine HM_0 tabO_nra (tNext_R l0_0 l0_1 l0_2 r) [.tmp 2, .tmp 3] [0, 1, 2] 13 1 Try.func54 fun w bs h => ?_
 have h : tNext n l0_0 l0_1 l0_2 = some r := h
 unfold tNext at h
 have hT := tabO_nra
 refine Vrs hT [0, 1, 2] ⟨[(0, kP 0 0)], [(1000000, kP 0 0)], [⟨.blk, 89, 1, 3, .c [.wh 1, .s (.k .i64 l0_1), .wh 2]⟩, nb 5 l0_0, nz 3 l0_2]⟩ ?_
 obtain ⟨r6, g1, h⟩ := bind_some' h
 refine Vgs hT (fM 1 (tleft_ok n r6) fN) [] [] [0, 3, 4] ⟨[(4, .c (.sl 1 r6.1 r6.2))], [(1000000, kP 0 0)], [⟨.blk, 89, 1, 3, .c [.wh 1, .s (.k .i64 l0_1), .wh 2]⟩, nb 5 l0_0, nz 3 l0_2]⟩ (aP g1 aN) ?_
 refine W_seq ?_
 refine Vrs hT [0, 1, 2] ⟨[(4, .c (.sl 1 r6.1 r6.2)), (9, kB (((r6.2 : Nat) : Int) == 0))], [(1000000, kP 0 0)], [⟨.blk, 89, 1, 3, .c [.wh 1, .s (.k .i64 l0_1), .wh 2]⟩, nb 5 l0_0, nz 3 l0_2]⟩ ?_
 refine Vi ((((r6.2 : Nat) : Int) == 0)) (fun g4 => ?_) (fun g4 => ?_)
 ·replace h := bif_t h g4
  refine Vrs hT [0, 1, 2] ⟨[(2, kU 0), (3, kB false)], [(1000000, kP 0 0)], [⟨.blk, 89, 1, 3, .c [.wh 1, .s (.k .i64 l0_1), .wh 2]⟩, nb 5 l0_0, nz 3 l0_2]⟩ ?_
  refine Vc [] [0, 1, 2] (tNext_R l0_0 l0_1 l0_2 (0, false)) (W_ret ?_)
  exact ⟨.inl rfl, by cases h; rfl⟩
 ·replace h := bif_f h g4
  refine W_skip ?_
  obtain ⟨g2, g3, h⟩ := gd2 h
  refine Vgs hT fN [] [] [0, 1, 2] ⟨[(2, kU (l0_0.getD (oddA r6.1 0) 0)), (3, kB true)], [(1000000, kP 0 0)], [⟨.blk, 89, 1, 3, .c [.wh 1, .s (.k .i64 l0_1), .wh 2]⟩, nb 5 l0_0, nz 3 l0_2]⟩ (aP g2 (aP g3 aN)) ?_
  refine Vc [] [0, 1, 2] (tNext_R l0_0 l0_1 l0_2 ((l0_0.getD (oddA r6.1 0) 0), true)) (W_ret ?_)
  exact ⟨.inl rfl, by cases h; rfl⟩
def tTake_R (a0_0 : List UInt8) (a0_2 : List Int) (r : Int × List UInt8 × Option Int) : S := ⟨[(4, kH 3), (5, kE 38 r.2.2)], [(1000000, kP 0 0)], [⟨.blk, 89, 1, 3, .c [.wh 1, .s (.k .i64 r.1), .wh 2]⟩, nb 5 a0_0, nz 3 a0_2, nb 5 r.2.1]⟩
def tTake_ct (n : Nat) (r : Int × List UInt8 × Option Int) : CtM := ctM (cmm (mP 89 (mC (mB 5) (mC mI (mC (mZ 3) mN)))) fun y0 => cmc rU8.rd fun l1 => cmR (tTake n y0.1 y0.2.1 y0.2.2.1 l1 = some r) (.t [.c (.wh 2), .c (.s (.er 38 .i64 r.2.2))]) [⟨.blk, 89, 1, 3, .c [.wh 0, .s (.k .i64 r.1), .wh 1]⟩] [nb 5 y0.1, nz 3 y0.2.2.1, nb 5 r.2.1])
theorem tTake_ok (n : Nat) (r : Int × List UInt8 × Option Int) : FnMOk Try.prog 77 (tTake_ct n r) := by
 refine fnokM Try.func77 ?_
 refine HM_m (mP 89 (mC (mB 5) (mC mI (mC (mZ 3) mN)))) (fun (p0 : ((List UInt8) × (Int) × (List Int) × Unit)) => ?_) (allOwn_ok rfl)
 obtain ⟨l0_0, l0_1, l0_2, _⟩ := p0
 refine HM_c rU8 fun l1 _ => HM_0 tabO_nra (tTake_R l0_0 l0_2 r) [.tmp 4, .tmp 5] [0, 1, 2, 3] 54 1 Try.func77 fun w bs h => ?_
 have h : tTake n l0_0 l0_1 l0_2 l1 = some r := h
 unfold tTake at h
 have hT := tabO_nra
 refine Vrs hT [0, 1, 2] ⟨[(0, kP 0 0), (1, kU l1)], [(1000000, kP 0 0)], [⟨.blk, 89, 1, 3, .c [.wh 1, .s (.k .i64 l0_1), .wh 2]⟩, nb 5 l0_0, nz 3 l0_2]⟩ ?_
 obtain ⟨r11, g1, h⟩ := bind_some' h
 refine Vgs hT (fM 1 (tleft_ok n r11) fN) [] [] [0, 3, 4] ⟨[(0, kP 0 0), (1, kU l1), (6, .c (.sl 1 r11.1 r11.2))], [(1000000, kP 0 0)], [⟨.blk, 89, 1, 3, .c [.wh 1, .s (.k .i64 l0_1), .wh 2]⟩, nb 5 l0_0, nz 3 l0_2]⟩ (aP g1 aN) ?_
 refine W_seq ?_
 refine W_block ?_
 refine Vrs hT [0, 1, 2] ⟨[(0, kP 0 0), (1, kU l1), (6, .c (.sl 1 r11.1 r11.2)), (12, kB (((r11.2 : Nat) : Int) == 0))], [(1000000, kP 0 0)], [⟨.blk, 89, 1, 3, .c [.wh 1, .s (.k .i64 l0_1), .wh 2]⟩, nb 5 l0_0, nz 3 l0_2]⟩ ?_
 refine Vi ((((r11.2 : Nat) : Int) == 0)) (fun g16 => ?_) (fun g16 => ?_)
 ·replace h := bif_t h g16
  refine Vrs hT [0, 1, 2] ⟨[(4, .c (.nils)), (5, kE 38 (some 13))], [(1000000, kP 0 0)], [⟨.blk, 89, 1, 3, .c [.wh 1, .s (.k .i64 l0_1), .wh 2]⟩, nb 5 l0_0, nz 3 l0_2]⟩ ?_
  refine Vc [.nil 4 5 1 (.b [])] [0, 1, 2, 3] (tTake_R l0_0 l0_2 (l0_1, [], (some 13))) (W_ret ?_)
  exact ⟨.inl rfl, by cases h; rfl⟩
 ·replace h := bif_f h g16
  obtain ⟨g2, g3, h⟩ := gd2 h
  refine Vgs hT fN [] [] [0, 1, 2] ⟨[(0, kP 0 0), (1, kU l1), (6, .c (.sl 1 r11.1 r11.2)), (17, kB ((l0_0.getD (oddA r11.1 0) 0) != l1))], [(1000000, kP 0 0)], [⟨.blk, 89, 1, 3, .c [.wh 1, .s (.k .i64 l0_1), .wh 2]⟩, nb 5 l0_0, nz 3 l0_2]⟩ (aP g2 (aP g3 aN)) ?_
  refine Vi (((l0_0.getD (oddA r11.1 0) 0) != l1)) (fun g15 => ?_) (fun g15 => ?_)
  ·replace h := bif_t h g15
   refine Vrs hT [0, 1, 2] ⟨[(4, .c (.nils)), (5, kE 38 (some 6))], [(1000000, kP 0 0)], [⟨.blk, 89, 1, 3, .c [.wh 1, .s (.k .i64 l0_1), .wh 2]⟩, nb 5 l0_0, nz 3 l0_2]⟩ ?_
   refine Vc [.nil 4 5 1 (.b [])] [0, 1, 2, 3] (tTake_R l0_0 l0_2 (l0_1, [], (some 6))) (W_ret ?_)
   exact ⟨.inl rfl, by cases h; rfl⟩
  ·replace h := bif_f h g15
   refine W_skip ?_
   obtain ⟨r26, g4, h⟩ := bind_some' h
   refine Vgs hT (fT 1 (thead_ok n r26) fN) [] [] [0, 1, 2] ⟨[(0, kP 0 0), (1, kU l1), (6, .c (.sl 1 r11.1 r11.2)), (7, kI r26.1), (8, kI r26.2.1), (9, kB r26.2.2)], [(1000000, kP 0 0)], [⟨.blk, 89, 1, 3, .c [.wh 1, .s (.k .i64 l0_1), .wh 2]⟩, nb 5 l0_0, nz 3 l0_2]⟩ (aP g4 aN) ?_
   refine W_seq ?_
   refine W_seq ?_
   rcases Bool.eq_false_or_eq_true (!r26.2.2) with g5 | g5
   ·replace h := bif_t h g5
    refine Vg hT fN [(2, true)] [] [0, 1, 2] ⟨[(0, kP 0 0), (6, .c (.sl 1 r11.1 r11.2)), (7, kI r26.1), (8, kI r26.2.1), (35, kB true)], [(1000000, kP 0 0)], [⟨.blk, 89, 1, 3, .c [.wh 1, .s (.k .i64 l0_1), .wh 2]⟩, nb 5 l0_0, nz 3 l0_2]⟩ (aP g5 aN) ?_
    refine Vi (true) (fun _ => ?_) (fun hb => by cases hb)
    refine Vrs hT [0, 1, 2] ⟨[(4, .c (.nils)), (5, kE 38 (some 2))], [(1000000, kP 0 0)], [⟨.blk, 89, 1, 3, .c [.wh 1, .s (.k .i64 l0_1), .wh 2]⟩, nb 5 l0_0, nz 3 l0_2]⟩ ?_
    refine Vc [.nil 4 5 1 (.b [])] [0, 1, 2, 3] (tTake_R l0_0 l0_2 (l0_1, [], (some 2))) (W_ret ?_)
    exact ⟨.inl rfl, by cases h; rfl⟩
   ·replace h := bif_f h g5
    obtain ⟨r34, g6, h⟩ := bind_some' h
    refine Vg hT (fT 4 (tisW_ok n r34) fN) [(2, false)] [] [0, 1, 2] ⟨[(0, kP 0 0), (6, .c (.sl 1 r11.1 r11.2)), (7, kI r26.1), (8, kI r26.2.1), (35, kB r34)], [(1000000, kP 0 0)], [⟨.blk, 89, 1, 3, .c [.wh 1, .s (.k .i64 l0_1), .wh 2]⟩, nb 5 l0_0, nz 3 l0_2]⟩ (aP g5 (aP g6 aN)) ?_
    refine Vi (r34) (fun g14 => ?_) (fun g14 => ?_)
    ·replace h := bif_t h g14
     refine Vrs hT [0, 1, 2] ⟨[(4, .c (.nils)), (5, kE 38 (some 2))], [(1000000, kP 0 0)], [⟨.blk, 89, 1, 3, .c [.wh 1, .s (.k .i64 l0_1), .wh 2]⟩, nb 5 l0_0, nz 3 l0_2]⟩ ?_
     refine Vc [.nil 4 5 1 (.b [])] [0, 1, 2, 3] (tTake_R l0_0 l0_2 (l0_1, [], (some 2))) (W_ret ?_)
     exact ⟨.inl rfl, by cases h; rfl⟩
    ·replace h := bif_f h g14
     refine W_skip ?_
     obtain ⟨g7, g8, h⟩ := gd2 h
     refine Vgs hT fN [] [] [0, 1, 2] ⟨[(6, .c (.sl 1 r11.1 r11.2)), (7, kI r26.1), (8, kI r26.2.1)], [(1000000, kP 0 0)], [⟨.blk, 89, 1, 3, .c [.wh 1, .s (.k .i64 (l0_1 + (r26.1 + r26.2.1))), .wh 2]⟩, nb 5 l0_0, nz 3 l0_2]⟩ (aP g7 (aP g8 aN)) ?_
     obtain ⟨g9, g10, g11, g12, g13, h⟩ := gd5 h
     refine Vgs hT (fT 6 cloneb_h fN) [] [] [0, 1, 2, 3] ⟨[(4, kH 3), (5, .c (.s (.v .nilIface)))], [(1000000, kP 0 0)], [⟨.blk, 89, 1, 3, .c [.wh 1, .s (.k .i64 (l0_1 + (r26.1 + r26.2.1))), .wh 2]⟩, nb 5 l0_0, nz 3 l0_2, nb 5 ((l0_0.drop (oddA r11.1 r26.1.toNat)).take (((r26.1 + r26.2.1).toNat) - r26.1.toNat))]⟩ (aP g9 (aP g10 (aP g11 (aP g12 (aP g13 aN))))) ?_
     refine Vc [.er 5 38 .i64] [0, 1, 2, 3] (tTake_R l0_0 l0_2 ((l0_1 + (r26.1 + r26.2.1)), ((l0_0.drop (oddA r11.1 r26.1.toNat)).take (((r26.1 + r26.2.1).toNat) - r26.1.toNat)), none)) (W_ret ?_)
     exact ⟨.inl rfl, by cases h; rfl⟩
def tEnter_R (a0_0 : List UInt8) (r : Int × List Int × Option Int) : S := ⟨[(4, kE 38 r.2.2)], [(1000000, kP 0 0)], [⟨.blk, 89, 1, 3, .c [.wh 1, .s (.k .i64 r.1), .wh 2]⟩, nb 5 a0_0, nz 3 r.2.1]⟩
def tEnter_ct (n : Nat) (r : Int × List Int × Option Int) : CtM := ctM (cmm (mP 89 (mC (mB 5) (mC mI (mC (mZ 3) mN)))) fun y0 => cmc rU8.rd fun l1 => cmR (tEnter n y0.1 y0.2.1 y0.2.2.1 l1 = some r) (kE 38 r.2.2) [⟨.blk, 89, 1, 3, .c [.wh 0, .s (.k .i64 r.1), .wh 1]⟩] [nb 5 y0.1, nz 3 r.2.1])
theorem tEnter_ok (n : Nat) (r : Int × List Int × Option Int) : FnMOk Try.prog 53 (tEnter_ct n r) := by
 refine fnokM Try.func53 ?_
 refine HM_m (mP 89 (mC (mB 5) (mC mI (mC (mZ 3) mN)))) (fun (p0 : ((List UInt8) × (Int) × (List Int) × Unit)) => ?_) (allOwn_ok rfl)
 obtain ⟨l0_0, l0_1, l0_2, _⟩ := p0
 refine HM_c rU8 fun l1 _ => HM_0 tabO_nra (tEnter_R l0_0 r) [.tmp 4] [0, 1, 2] 69 1 Try.func53 fun w bs h => ?_
 have h : tEnter n l0_0 l0_1 l0_2 l1 = some r := h
 unfold tEnter at h
 have hT := tabO_nra
 refine Vrs hT [0, 1, 2] ⟨[(0, kP 0 0), (1, kU l1)], [(1000000, kP 0 0)], [⟨.blk, 89, 1, 3, .c [.wh 1, .s (.k .i64 l0_1), .wh 2]⟩, nb 5 l0_0, nz 3 l0_2]⟩ ?_
 obtain ⟨r10, g1, h⟩ := bind_some' h
 refine Vgs hT (fM 1 (tleft_ok n r10) fN) [] [] [0, 3, 4] ⟨[(0, kP 0 0), (1, kU l1), (5, .c (.sl 1 r10.1 r10.2))], [(1000000, kP 0 0)], [⟨.blk, 89, 1, 3, .c [.wh 1, .s (.k .i64 l0_1), .wh 2]⟩, nb 5 l0_0, nz 3 l0_2]⟩ (aP g1 aN) ?_
 refine W_seq ?_
 refine W_block ?_
 refine Vrs hT [0, 1, 2] ⟨[(0, kP 0 0), (1, kU l1), (5, .c (.sl 1 r10.1 r10.2)), (11, kB (((r10.2 : Nat) : Int) == 0))], [(1000000, kP 0 0)], [⟨.blk, 89, 1, 3, .c [.wh 1, .s (.k .i64 l0_1), .wh 2]⟩, nb 5 l0_0, nz 3 l0_2]⟩ ?_
 refine Vi ((((r10.2 : Nat) : Int) == 0)) (fun g13 => ?_) (fun g13 => ?_)
 ·replace h := bif_t h g13
  refine Vrs hT [0, 1, 2] ⟨[(4, kE 38 (some 13))], [(1000000, kP 0 0)], [⟨.blk, 89, 1, 3, .c [.wh 1, .s (.k .i64 l0_1), .wh 2]⟩, nb 5 l0_0, nz 3 l0_2]⟩ ?_
  refine Vc [] [0, 1, 2] (tEnter_R l0_0 (l0_1, l0_2, (some 13))) (W_ret ?_)
  exact ⟨.inl rfl, by cases h; rfl⟩
 ·replace h := bif_f h g13
  obtain ⟨g2, g3, h⟩ := gd2 h
  refine Vgs hT fN [] [] [0, 1, 2] ⟨[(0, kP 0 0), (1, kU l1), (5, .c (.sl 1 r10.1 r10.2)), (16, kB ((l0_0.getD (oddA r10.1 0) 0) != l1))], [(1000000, kP 0 0)], [⟨.blk, 89, 1, 3, .c [.wh 1, .s (.k .i64 l0_1), .wh 2]⟩, nb 5 l0_0, nz 3 l0_2]⟩ (aP g2 (aP g3 aN)) ?_
  refine Vi (((l0_0.getD (oddA r10.1 0) 0) != l1)) (fun g12 => ?_) (fun g12 => ?_)
  ·replace h := bif_t h g12
   refine Vrs hT [0, 1, 2] ⟨[(4, kE 38 (some 6))], [(1000000, kP 0 0)], [⟨.blk, 89, 1, 3, .c [.wh 1, .s (.k .i64 l0_1), .wh 2]⟩, nb 5 l0_0, nz 3 l0_2]⟩ ?_
   refine Vc [] [0, 1, 2] (tEnter_R l0_0 (l0_1, l0_2, (some 6))) (W_ret ?_)
   exact ⟨.inl rfl, by cases h; rfl⟩
  ·replace h := bif_f h g12
   refine W_skip ?_
   obtain ⟨r25, g4, h⟩ := bind_some' h
   refine Vgs hT (fT 1 (thead_ok n r25) fN) [] [] [0, 1, 2] ⟨[(0, kP 0 0), (1, kU l1), (6, kI r25.1), (7, kI r25.2.1), (8, kB r25.2.2)], [(1000000, kP 0 0)], [⟨.blk, 89, 1, 3, .c [.wh 1, .s (.k .i64 l0_1), .wh 2]⟩, nb 5 l0_0, nz 3 l0_2]⟩ (aP g4 aN) ?_
   refine W_seq ?_
   refine W_block ?_
   refine W_seq ?_
   rcases Bool.eq_false_or_eq_true (!r25.2.2) with g5 | g5
   ·replace h := bif_t h g5
    refine Vg hT fN [(2, true)] [] [0, 1, 2] ⟨[(0, kP 0 0), (6, kI r25.1), (7, kI r25.2.1), (29, kB true)], [(1000000, kP 0 0)], [⟨.blk, 89, 1, 3, .c [.wh 1, .s (.k .i64 l0_1), .wh 2]⟩, nb 5 l0_0, nz 3 l0_2]⟩ (aP g5 aN) ?_
    refine Vi (true) (fun _ => ?_) (fun hb => by cases hb)
    refine Vrs hT [0, 1, 2] ⟨[(4, kE 38 (some 2))], [(1000000, kP 0 0)], [⟨.blk, 89, 1, 3, .c [.wh 1, .s (.k .i64 l0_1), .wh 2]⟩, nb 5 l0_0, nz 3 l0_2]⟩ ?_
    refine Vc [] [0, 1, 2] (tEnter_R l0_0 (l0_1, l0_2, (some 2))) (W_ret ?_)
    exact ⟨.inl rfl, by cases h; rfl⟩
   ·replace h := bif_f h g5
    obtain ⟨r34, g6, h⟩ := bind_some' h
    refine Vg hT (fT 4 (tisW_ok n r34) fN) [(2, false)] [] [0, 1, 2] ⟨[(0, kP 0 0), (6, kI r25.1), (7, kI r25.2.1), (29, kB (!r34))], [(1000000, kP 0 0)], [⟨.blk, 89, 1, 3, .c [.wh 1, .s (.k .i64 l0_1), .wh 2]⟩, nb 5 l0_0, nz 3 l0_2]⟩ (aP g5 (aP g6 aN)) ?_
    refine Vi ((!r34)) (fun g11 => ?_) (fun g11 => ?_)
    ·replace h := bif_t h g11
     refine Vrs hT [0, 1, 2] ⟨[(4, kE 38 (some 2))], [(1000000, kP 0 0)], [⟨.blk, 89, 1, 3, .c [.wh 1, .s (.k .i64 l0_1), .wh 2]⟩, nb 5 l0_0, nz 3 l0_2]⟩ ?_
     refine Vc [] [0, 1, 2] (tEnter_R l0_0 (l0_1, l0_2, (some 2))) (W_ret ?_)
     exact ⟨.inl rfl, by cases h; rfl⟩
    ·replace h := bif_f h g11
     refine Vrs hT [0, 1, 2] ⟨[(0, kP 0 0), (6, kI r25.1), (7, kI r25.2.1), (38, kB (decide ((24 : Int) < ((l0_2.length : Nat) : Int))))], [(1000000, kP 0 0)], [⟨.blk, 89, 1, 3, .c [.wh 1, .s (.k .i64 l0_1), .wh 2]⟩, nb 5 l0_0, nz 3 l0_2]⟩ ?_
     refine Vi ((decide ((24 : Int) < ((l0_2.length : Nat) : Int)))) (fun g10 => ?_) (fun g10 => ?_)
     ·replace h := bif_t h g10
      refine Vrs hT [0, 1, 2] ⟨[(4, kE 38 (some 5))], [(1000000, kP 0 0)], [⟨.blk, 89, 1, 3, .c [.wh 1, .s (.k .i64 l0_1), .wh 2]⟩, nb 5 l0_0, nz 3 l0_2]⟩ ?_
      refine Vc [] [0, 1, 2] (tEnter_R l0_0 (l0_1, l0_2, (some 5))) (W_ret ?_)
      exact ⟨.inl rfl, by cases h; rfl⟩
     ·replace h := bif_f h g10
      refine W_skip ?_
      obtain ⟨g7, h⟩ := gd_some h
      refine Vgs hT fN [] [] [0, 1, 2] ⟨[(0, kP 0 0), (7, kI r25.2.1)], [(1000000, kP 0 0)], [⟨.blk, 89, 1, 3, .c [.wh 1, .s (.k .i64 (l0_1 + r25.1)), .wh 2]⟩, nb 5 l0_0, nz 3 l0_2]⟩ (aP g7 aN) ?_
      refine W_seq ?_
      obtain ⟨g8, g9, h⟩ := gd2 h
      refine W_regG hT fN (by kernel_rfl) [] [0, 1, 2, 3, 4, 5, 6, 7, 8, 9, 10, 13, 14] [[0, 1, 2, 3, 4, 5, 6, 7, 8, 9, 10], [0, 1, 2, 3, 4, 5, 6, 7, 8, 9, 10, 11], [0, 1, 2, 3, 4, 5, 6, 7, 8, 9, 10, 11, 12, 13, 14], [0, 1, 2, 3, 4, 5, 6, 7, 8, 9, 10, 11, 12, 13, 14, 15]] [⟨[(0, kP 0 0), (7, kI r25.2.1), (54, kP 0 0), (55, kP 0 0), (56, kP 0 0), (57, kP 0 2), (58, kH 2), (59, kP 0 0), (60, kP 0 0), (61, kP 0 1), (62, kI (l0_1 + r25.1)), (63, kI r25.2.1), (64, kI ((l0_1 + r25.1) + r25.2.1))], [(1000000, kP 0 0)], [⟨.blk, 89, 1, 3, .c [.wh 1, .s (.k .i64 (l0_1 + r25.1)), .wh 2]⟩, nb 5 l0_0, nz 3 l0_2]⟩, ⟨[(0, kP 0 0), (54, kP 0 0), (55, kP 0 0), (56, kP 0 0), (57, kP 0 2), (58, kH 2), (65, kH 3)], [(1000000, kP 0 0)], [⟨.blk, 89, 1, 3, .c [.wh 1, .s (.k .i64 (l0_1 + r25.1)), .wh 2]⟩, nb 5 l0_0, nz 3 l0_2, ⟨.row, 3, 1, 1, .z [((l0_1 + r25.1) + r25.2.1)]⟩]⟩, ⟨[(0, kP 0 0), (54, kP 0 0), (66, kH 3), (67, kP 0 0), (68, kP 0 2)], [(1000000, kP 0 0)], [⟨.blk, 89, 1, 3, .c [.wh 1, .s (.k .i64 (l0_1 + r25.1)), .wh 2]⟩, nb 5 l0_0, ⟨.dead, 3, 1, l0_2.length, .z l0_2⟩, nz 3 (l0_2 ++ [((l0_1 + r25.1) + r25.2.1)])]⟩, ⟨[], [(1000000, kP 0 0)], [⟨.blk, 89, 1, 3, .c [.wh 1, .s (.k .i64 (l0_1 + r25.1)), .wh 2]⟩, nb 5 l0_0, nz 3 (l0_2 ++ [((l0_1 + r25.1) + r25.2.1)])]⟩] [0, 1, 2, 3, 4, 5, 6, 7, 8, 9, 10] [⟨0, 11, 1, [], [], [0, 54, 55, 56, 57, 58, 65], [0, 1, 2, 3]⟩, ⟨1, 12, 2, [13, 14], [], [0, 54, 66, 67, 68], [0, 1, 2, 4]⟩, ⟨2, 15, 3, [], [], [], [0, 1, 3]⟩] [(0, 0), (0, 1), (0, 2), (0, 3), (0, 4), (0, 5), (0, 6), (0, 7), (0, 8), (0, 9), (0, 10), (1, 0), (1, 1), (1, 2), (1, 3), (1, 4), (2, 0), (2, 13), (2, 14)] 3 [0, 7, 54, 55, 56, 57, 58, 59, 60, 61, 62, 63, 64] [0, 1, 2] [] [] [0, 1, 2] (s' := ⟨[], [(1000000, kP 0 0)], [⟨.blk, 89, 1, 3, .c [.wh 1, .s (.k .i64 (l0_1 + r25.1)), .wh 2]⟩, nb 5 l0_0, nz 3 (l0_2 ++ [((l0_1 + r25.1) + r25.2.1)])]⟩) (by kernel_rfl) ⟨_, (by kernel_rfl), (allP_cons.2 ⟨g8, allP_nil⟩)⟩ (AllE.cons ⟨_, (by kernel_rfl), allP_nil⟩ (AllE.cons ⟨_, (by kernel_rfl), (allP_cons.2 ⟨g9, allP_nil⟩)⟩ (AllE.cons ⟨_, (by kernel_rfl), allP_nil⟩ AllE.nil))) (AllR.cons ⟨_, (by kernel_rfl), allP_nil⟩ (AllR.cons ⟨_, (by kernel_rfl), allP_nil⟩ (AllR.cons ⟨_, (by kernel_rfl), allP_nil⟩ (AllR.cons ⟨_, (by kernel_rfl), allP_nil⟩ (AllR.cons ⟨_, (by kernel_rfl), allP_nil⟩ (AllR.cons ⟨_, (by kernel_rfl), allP_nil⟩ (AllR.cons ⟨_, (by kernel_rfl), allP_nil⟩ (AllR.cons ⟨_, (by kernel_rfl), allP_nil⟩ (AllR.cons ⟨_, (by kernel_rfl), allP_nil⟩ (AllR.cons ⟨_, (by kernel_rfl), allP_nil⟩ (AllR.cons ⟨_, (by kernel_rfl), (allP_cons.2 ⟨g8, allP_nil⟩)⟩ (AllR.cons ⟨_, (by kernel_rfl), allP_nil⟩ (AllR.cons ⟨_, (by kernel_rfl), allP_nil⟩ (AllR.cons ⟨_, (by kernel_rfl), allP_nil⟩ (AllR.cons ⟨_, (by kernel_rfl), allP_nil⟩ (AllR.cons ⟨_, (by kernel_rfl), allP_nil⟩ (AllR.cons ⟨_, (by kernel_rfl), allP_nil⟩ (AllR.cons ⟨_, (by kernel_rfl), allP_nil⟩ (AllR.cons ⟨_, (by kernel_rfl), allP_nil⟩ AllR.nil))))))))))))))))))) (by kernel_rfl) ?_
      refine Vrs hT [0, 1, 2] ⟨[(4, .c (.s (.v .nilIface)))], [(1000000, kP 0 0)], [⟨.blk, 89, 1, 3, .c [.wh 1, .s (.k .i64 (l0_1 + r25.1)), .wh 2]⟩, nb 5 l0_0, nz 3 (l0_2 ++ [((l0_1 + r25.1) + r25.2.1)])]⟩ ?_
      refine Vc [.er 4 38 .i64] [0, 1, 2] (tEnter_R l0_0 ((l0_1 + r25.1), (l0_2 ++ [((l0_1 + r25.1) + r25.2.1)]), none)) (W_ret ?_)
      exact ⟨.inl rfl, by cases h; rfl⟩
def tLeave_R (a0_0 : List UInt8) (a0_1 : Int) (r : List Int × Option Int) : S := ⟨[(2, kE 38 r.2)], [(1000000, kP 0 0)], [⟨.blk, 89, 1, 3, .c [.wh 1, .s (.k .i64 a0_1), .wh 2]⟩, nb 5 a0_0, nz 3 r.1]⟩
def tLeave_ct (n : Nat) (r : List Int × Option Int) : CtM := ctM (cmm (mP 89 (mC (mB 5) (mC mI (mC (mZ 3) mN)))) fun y0 => cmR (tLeave n y0.1 y0.2.1 y0.2.2.1 = some r) (kE 38 r.2) [⟨.blk, 89, 1, 3, .c [.wh 0, .s (.k .i64 y0.2.1), .wh 1]⟩] [nb 5 y0.1, nz 3 r.1])
theorem tLeave_ok (n : Nat) (r : List Int × Option Int) : FnMOk Try.prog 56 (tLeave_ct n r) := by
 refine fnokM Try.func56 ?_
 refine HM_m (mP 89 (mC (mB 5) (mC mI (mC (mZ 3) mN)))) (fun (p0 : ((List UInt8) × (Int) × (List Int) × Unit)) => ?_) (allOwn_ok rfl)
 obtain ⟨l0_0, l0_1, l0_2, _⟩ := p0
 refine HM_0 tabO_nra (tLeave_R l0_0 l0_1 r) [.tmp 2] [0, 1, 2] 31 1 Try.func56 fun w bs h => ?_
 have h : tLeave n l0_0 l0_1 l0_2 = some r := h
 unfold tLeave at h
 have hT := tabO_nra
 refine Vrs hT [0, 1, 2] ⟨[(0, kP 0 0)], [(1000000, kP 0 0)], [⟨.blk, 89, 1, 3, .c [.wh 1, .s (.k .i64 l0_1), .wh 2]⟩, nb 5 l0_0, nz 3 l0_2]⟩ ?_
 refine W_seq ?_
 refine W_block ?_
 refine Vrs hT [0, 1, 2] ⟨[(0, kP 0 0), (3, kB (((l0_2.length : Nat) : Int) == 1))], [(1000000, kP 0 0)], [⟨.blk, 89, 1, 3, .c [.wh 1, .s (.k .i64 l0_1), .wh 2]⟩, nb 5 l0_0, nz 3 l0_2]⟩ ?_
 refine Vi ((((l0_2.length : Nat) : Int) == 1)) (fun g6 => ?_) (fun g6 => ?_)
 ·replace h := bif_t h g6
  refine Vrs hT [0, 1, 2] ⟨[(2, kE 38 (some 17))], [(1000000, kP 0 0)], [⟨.blk, 89, 1, 3, .c [.wh 1, .s (.k .i64 l0_1), .wh 2]⟩, nb 5 l0_0, nz 3 l0_2]⟩ ?_
  refine Vc [] [0, 1, 2] (tLeave_R l0_0 l0_1 (l0_2, (some 17))) (W_ret ?_)
  exact ⟨.inl rfl, by cases h; rfl⟩
 ·replace h := bif_f h g6
  obtain ⟨r13, g1, h⟩ := bind_some' h
  refine Vgs hT (fM 1 (tleft_ok n r13) fN) [] [] [0, 3, 4] ⟨[(0, kP 0 0), (11, kB (decide ((0 : Int) < ((r13.2 : Nat) : Int))))], [(1000000, kP 0 0)], [⟨.blk, 89, 1, 3, .c [.wh 1, .s (.k .i64 l0_1), .wh 2]⟩, nb 5 l0_0, nz 3 l0_2]⟩ (aP g1 aN) ?_
  refine Vi ((decide ((0 : Int) < ((r13.2 : Nat) : Int)))) (fun g5 => ?_) (fun g5 => ?_)
  ·replace h := bif_t h g5
   refine Vrs hT [0, 1, 2] ⟨[(2, kE 38 (some 3))], [(1000000, kP 0 0)], [⟨.blk, 89, 1, 3, .c [.wh 1, .s (.k .i64 l0_1), .wh 2]⟩, nb 5 l0_0, nz 3 l0_2]⟩ ?_
   refine Vc [] [0, 1, 2] (tLeave_R l0_0 l0_1 (l0_2, (some 3))) (W_ret ?_)
   exact ⟨.inl rfl, by cases h; rfl⟩
  ·replace h := bif_f h g5
   refine W_skip ?_
   obtain ⟨g2, g3, g4, h⟩ := gd3 h
   refine Vds hT fN 13 [] [(28, false), (29, false)] [.cut 0 2] [0, 1, 3] ⟨[], [(1000000, kP 0 0)], [⟨.blk, 89, 1, 3, .c [.wh 1, .s (.k .i64 l0_1), .wh 2]⟩, nb 5 l0_0, nz 3 (l0_2.take ((((l0_2.length : Nat) : Int) - 1).toNat))]⟩ (aP g2 (aP g3 (aP g4 aN))) ?_
   refine Vrs hT [0, 1, 2] ⟨[(2, .c (.s (.v .nilIface)))], [(1000000, kP 0 0)], [⟨.blk, 89, 1, 3, .c [.wh 1, .s (.k .i64 l0_1), .wh 2]⟩, nb 5 l0_0, nz 3 (l0_2.take ((((l0_2.length : Nat) : Int) - 1).toNat))]⟩ ?_
   refine Vc [.er 2 38 .i64] [0, 1, 2] (tLeave_R l0_0 l0_1 ((l0_2.take ((((l0_2.length : Nat) : Int) - 1).toNat)), none)) (W_ret ?_)
   exact ⟨.inl rfl, by cases h; rfl⟩
def tEnd_R (a0_0 : List UInt8) (a0_1 : Int) (a0_2 : List Int) (r : Option Int) : S := ⟨[(2, kE 38 r)], [(1000000, kP 0 0)], [⟨.blk, 89, 1, 3, .c [.wh 1, .s (.k .i64 a0_1), .wh 2]⟩, nb 5 a0_0, nz 3 a0_2]⟩
def tEnd_ct (n : Nat) (r : Option Int) : CtM := ctM (cmm (mP 89 (mC (mB 5) (mC mI (mC (mZ 3) mN)))) fun y0 => cmR (tEnd n y0.1 y0.2.1 y0.2.2.1 = some r) (kE 38 r) [⟨.blk, 89, 1, 3, .c [.wh 0, .s (.k .i64 y0.2.1), .wh 1]⟩] [nb 5 y0.1, nz 3 y0.2.2.1])
theorem tEnd_ok (n : Nat) (r : Option Int) : FnMOk Try.prog 57 (tEnd_ct n r) := by
 refine fnokM Try.func57 ?_
 refine HM_m (mP 89 (mC (mB 5) (mC mI (mC (mZ 3) mN)))) (fun (p0 : ((List UInt8) × (Int) × (List Int) × Unit)) => ?_) (allOwn_ok rfl)
 obtain ⟨l0_0, l0_1, l0_2, _⟩ := p0
 refine HM_0 tabO_nra (tEnd_R l0_0 l0_1 l0_2 r) [.tmp 2] [0, 1, 2] 17 1 Try.func57 fun w bs h => ?_
 have h : tEnd n l0_0 l0_1 l0_2 = some r := h
 unfold tEnd at h
 have hT := tabO_nra
 refine Vrs hT [0, 1, 2] ⟨[(0, kP 0 0)], [(1000000, kP 0 0)], [⟨.blk, 89, 1, 3, .c [.wh 1, .s (.k .i64 l0_1), .wh 2]⟩, nb 5 l0_0, nz 3 l0_2]⟩ ?_
 refine W_seq ?_
 refine W_block ?_
 refine Vrs hT [0, 1, 2] ⟨[(0, kP 0 0), (3, kB (decide ((1 : Int) < ((l0_2.length : Nat) : Int))))], [(1000000, kP 0 0)], [⟨.blk, 89, 1, 3, .c [.wh 1, .s (.k .i64 l0_1), .wh 2]⟩, nb 5 l0_0, nz 3 l0_2]⟩ ?_
 refine Vi ((decide ((1 : Int) < ((l0_2.length : Nat) : Int)))) (fun g3 => ?_) (fun g3 => ?_)
 ·replace h := bif_t h g3
  refine Vrs hT [0, 1, 2] ⟨[(2, kE 38 (some 17))], [(1000000, kP 0 0)], [⟨.blk, 89, 1, 3, .c [.wh 1, .s (.k .i64 l0_1), .wh 2]⟩, nb 5 l0_0, nz 3 l0_2]⟩ ?_
  refine Vc [] [0, 1, 2] (tEnd_R l0_0 l0_1 l0_2 (some 17)) (W_ret ?_)
  exact ⟨.inl rfl, by cases h; rfl⟩
 ·replace h := bif_f h g3
  obtain ⟨r13, g1, h⟩ := bind_some' h
  refine Vgs hT (fM 1 (tleft_ok n r13) fN) [] [] [0, 3, 4] ⟨[(11, kB (decide ((0 : Int) < ((r13.2 : Nat) : Int))))], [(1000000, kP 0 0)], [⟨.blk, 89, 1, 3, .c [.wh 1, .s (.k .i64 l0_1), .wh 2]⟩, nb 5 l0_0, nz 3 l0_2]⟩ (aP g1 aN) ?_
  refine Vi ((decide ((0 : Int) < ((r13.2 : Nat) : Int)))) (fun g2 => ?_) (fun g2 => ?_)
  ·replace h := bif_t h g2
   refine Vrs hT [0, 1, 2] ⟨[(2, kE 38 (some 3))], [(1000000, kP 0 0)], [⟨.blk, 89, 1, 3, .c [.wh 1, .s (.k .i64 l0_1), .wh 2]⟩, nb 5 l0_0, nz 3 l0_2]⟩ ?_
   refine Vc [] [0, 1, 2] (tEnd_R l0_0 l0_1 l0_2 (some 3)) (W_ret ?_)
   exact ⟨.inl rfl, by cases h; rfl⟩
  ·replace h := bif_f h g2
   refine W_skip ?_
   refine Vrs hT [0, 1, 2] ⟨[(2, .c (.s (.v .nilIface)))], [(1000000, kP 0 0)], [⟨.blk, 89, 1, 3, .c [.wh 1, .s (.k .i64 l0_1), .wh 2]⟩, nb 5 l0_0, nz 3 l0_2]⟩ ?_
   refine Vc [.er 2 38 .i64] [0, 1, 2] (tEnd_R l0_0 l0_1 l0_2 none) (W_ret ?_)
   exact ⟨.inl rfl, by cases h; rfl⟩
end Go.Proofs.Ytobfglafchoipaa
end
section
namespace Go.Proofs.Ytobfglafchoipaa
open Go.RowKit Go.Ch Go.Sx
def tabL_nwa : List (TypeId × Ti) := [(5, ⟨.int .u8, 1, 1, true, some [.int .u8]⟩),
 (22, ⟨.sl 5, 1, 24, false, some [.nils]⟩),
 (32, ⟨.ifc, 1, 16, true, some [.ifc]⟩),
 (70, ⟨.ptr 100, 1, 8, true, some [.ptr]⟩),
 (98, ⟨.sl 103, 1, 24, false, some [.nils]⟩),
 (100, ⟨.st [(98, 0), (32, 1)], 2, 40, false, some [.nils, .ifc]⟩),
 (103, ⟨.st [(5, 0), (22, 1)], 2, 32, false, some [.int .u8, .nils]⟩)]
def tab_nwa : Tab := fun t => (tabL_nwa).lookup t
theorem tabE_nwa : (tabL_nwa.map fun p => tiOf Try.prog p.1) = tabL_nwa.map fun p => some p.2 := by kernel_rfl
theorem tabO_nwa : TabOk Try.prog tab_nwa := tab_of tabE_nwa
def wNew (n : Nat) : Option (Unit) :=
 some ()
def wOpen1 (n : Nat) (a0_0 : UInt8) (a0_1 : List UInt8) (a1 : UInt8) : Option (Unit) :=
 (tvalid n a1).bind fun r23 =>
 bif (!r23) then
  none
 else
  (tisW n a1).bind fun r27 =>
  bif (!r27) then
   none
  else
   gd (rmB 2 32) <|
   some ()
def wadd1 (n : Nat) (a0_0 : UInt8) (a0_1 : List UInt8) (a1 : UInt8) (a2 : List UInt8) : Option (List UInt8) :=
 (tHead n a1 ((a2.length : Nat) : Int)).bind fun r13 =>
 bif (!((r13.2).isNone)) then
  none
 else
  gd (okI .i64 0) <|
  gd (0 ≤ (0 : Int)) <|
  gd ((0 : Int) < (1 : Int)) <|
  gd (1 < 1 * 2) <|
  gd (rmB (a0_1.length + r13.1.length) 1) <|
  gd (rmB (((a0_1 ++ r13.1).length) + a2.length) 1) <|
  gd (1 < 1 * 2) <|
  some ((a0_1 ++ r13.1) ++ a2)
def wadd2 (n : Nat) (a0_0 : UInt8) (a0_1 : List UInt8) (a0_2 : UInt8) (a0_3 : List UInt8) (a1 : UInt8) (a2 : List UInt8) : Option (List UInt8) :=
 (tHead n a1 ((a2.length : Nat) : Int)).bind fun r13 =>
 bif (!((r13.2).isNone)) then
  none
 else
  gd (okI .i64 1) <|
  gd (0 ≤ (1 : Int)) <|
  gd ((1 : Int) < (2 : Int)) <|
  gd (3 < 2 * 2) <|
  gd (rmB (a0_3.length + r13.1.length) 1) <|
  gd (rmB (((a0_3 ++ r13.1).length) + a2.length) 1) <|
  gd (3 < 2 * 2) <|
  some ((a0_3 ++ r13.1) ++ a2)
def wPut2 (n : Nat) (a0_0 : UInt8) (a0_1 : List UInt8) (a0_2 : UInt8) (a0_3 : List UInt8) (a1 : UInt8) (a2 : List UInt8) : Option (List UInt8) :=
 (tvalid n a1).bind fun r18 =>
 bif (!r18) then
  none
 else
  (tisW n a1).bind fun r22 =>
  bif r22 then
   none
  else
   (wadd2 n a0_0 a0_1 a0_2 a0_3 a1 a2).bind fun r9 =>
   some r9
def wClose2 (n : Nat) (a0_0 : UInt8) (a0_1 : List UInt8) (a0_2 : UInt8) (a0_3 : List UInt8) : Option (List UInt8) :=
 gd (okI .i64 1) <|
 gd (0 ≤ (1 : Int)) <|
 gd ((1 : Int) < (2 : Int)) <|
 gd (2 + 2 ≤ 4) <|
 gd (okI .i64 1) <|
 gd (0 ≤ (1 : Int)) <|
 gd ((1 : Int) ≤ (2 : Int)) <|
 (wadd1 n a0_0 a0_1 a0_2 a0_3).bind fun r34 =>
 some r34
def wBytes1 (n : Nat) (a0_0 : UInt8) (a0_1 : List UInt8) : Option (Unit) :=
 gd (0 ≤ (0 : Int)) <|
 gd ((0 : Int) < (1 : Int)) <|
 gd (1 < 1 * 2) <|
 gd ((a0_1).length ≤ 1000000000000) <|
 some ()
def wNew_R (r : Unit) : S := ⟨[(0, kP 0 0)], [], [⟨.blk, 100, 1, 2, .c [.wh 1, .s (.v .nilIface)]⟩, ⟨.row, 103, 2, 1, .c [.s (.u8 0), .wh 2]⟩, ⟨.row, 5, 1, 0, .b []⟩]⟩
def wNew_ct (n : Nat) (r : Unit) : Ct := ct0 fun H => ([wNew n = some r], shA H.length (kP 0 0), shH H.length [⟨.blk, 100, 1, 2, .c [.wh 1, .s (.v .nilIface)]⟩, ⟨.row, 103, 2, 1, .c [.s (.u8 0), .wh 2]⟩, ⟨.row, 5, 1, 0, .b []⟩])
theorem wNew_ok (n : Nat) (r : Unit) : FnOk Try.prog Tr 42 (wNew_ct n r) := by
 refine fnok Try.func42 ?_
 refine HO_0 tabO_nwa (wNew_R r) [.tmp 0] [0, 1, 2] 4 Try.func42 fun w hG h => ?_
 unfold wNew at h
 have hT := tabO_nwa
 refine Vrs hT [] ⟨[], [], []⟩ ?_
 refine Vrs hT [1, 0] ⟨[(0, kP 0 0)], [], [⟨.blk, 100, 1, 2, .c [.wh 1, .s (.v .nilIface)]⟩, ⟨.row, 103, 2, 1, .c [.s (.u8 0), .nils]⟩]⟩ ?_
 refine Vc [.nlc 1 1 5 1 (.b []) none] [0, 1, 2] (wNew_R ()) (W_ret ?_)
 exact ⟨.inl rfl, by cases h; rfl⟩
def wOpen1_R (a0_0 : UInt8) (a0_1 : List UInt8) (a1 : UInt8) (r : Unit) : S := ⟨[], [(1000000, kP 0 0)], [⟨.blk, 100, 1, 2, .c [.wh 1, .s (.er 38 .i64 none)]⟩, ⟨.row, 103, 2, 2, .c [.s (.u8 a0_0), .wh 2, .s (.u8 a1), .wh 3]⟩, nb 5 a0_1, ⟨.row, 5, 1, 0, .b []⟩]⟩
def wOpen1_ct (n : Nat) (r : Unit) : CtM := ctM (cmm (mP 100 (mC (mR 103 2 1 (mC mU8 (mC (mB 5) mN))) (mC (mE0 38) mN))) fun y0 => cmc rU8.rd fun l1 => cmR (wOpen1 n y0.1.1 y0.1.2.1 l1 = some r) (.t []) [⟨.blk, 100, 1, 2, .c [.wh 0, .s (.er 38 .i64 none)]⟩] [⟨.row, 103, 2, 2, .c [.s (.u8 y0.1.1), .wh 1, .s (.u8 l1), .wh 2]⟩, nb 5 y0.1.2.1, ⟨.row, 5, 1, 0, .b []⟩])
theorem wOpen1_ok (n : Nat) (r : Unit) : FnMOk Try.prog 43 (wOpen1_ct n r) := by
 refine fnokM Try.func43 ?_
 refine HM_m (mP 100 (mC (mR 103 2 1 (mC mU8 (mC (mB 5) mN))) (mC (mE0 38) mN))) (fun (p0 : ((((UInt8) × (List UInt8) × Unit)) × (Unit) × Unit)) => ?_) (allOwn_ok rfl)
 obtain ⟨⟨l0_0, l0_1, _⟩, _, _⟩ := p0
 refine HM_c rU8 fun l1 _ => HM_0 tabO_nwa (wOpen1_R l0_0 l0_1 l1 r) [] [0, 1, 2, 3] 43 1 Try.func43 fun w bs h => ?_
 have h : wOpen1 n l0_0 l0_1 l1 = some r := h
 unfold wOpen1 at h
 have hT := tabO_nwa
 refine W_block ?_
 refine Vrs hT [0, 1, 2] ⟨[(0, kP 0 0), (1, kU l1), (15, kB false)], [(1000000, kP 0 0)], [⟨.blk, 100, 1, 2, .c [.wh 1, .s (.er 38 .i64 none)]⟩, ⟨.row, 103, 2, 1, .c [.s (.u8 l0_0), .wh 2]⟩, nb 5 l0_1]⟩ ?_
 refine Vi (false) (fun hb => by cases hb) (fun _ => ?_)
 refine W_seq ?_
 obtain ⟨r23, g1, h⟩ := bind_some' h
 rcases Bool.eq_false_or_eq_true (!r23) with g2 | g2
 ·replace h := bif_t h g2
  refine Vg hT (fT 1 (tvalid_ok n r23) fN) [(3, true)] [] [0, 1, 2] ⟨[(0, kP 0 0), (1, kU l1), (21, kB true)], [(1000000, kP 0 0)], [⟨.blk, 100, 1, 2, .c [.wh 1, .s (.er 38 .i64 none)]⟩, ⟨.row, 103, 2, 1, .c [.s (.u8 l0_0), .wh 2]⟩, nb 5 l0_1]⟩ (aP g1 (aP g2 aN)) ?_
  refine Vi (true) (fun _ => ?_) (fun hb => by cases hb)
  cases h
 ·replace h := bif_f h g2
  obtain ⟨r27, g3, h⟩ := bind_some' h
  refine Vg hT (fT 1 (tvalid_ok n r23) (fT 5 (tisW_ok n r27) fN)) [(3, false)] [] [0, 1, 2] ⟨[(0, kP 0 0), (1, kU l1), (21, kB (!r27))], [(1000000, kP 0 0)], [⟨.blk, 100, 1, 2, .c [.wh 1, .s (.er 38 .i64 none)]⟩, ⟨.row, 103, 2, 1, .c [.s (.u8 l0_0), .wh 2]⟩, nb 5 l0_1]⟩ (aP g1 (aP g2 (aP g3 aN))) ?_
  refine Vi ((!r27)) (fun g5 => ?_) (fun g5 => ?_)
  ·replace h := bif_t h g5
   cases h
  ·replace h := bif_f h g5
   refine Vrs hT [0, 1, 2] ⟨[(0, kP 0 0), (1, kU l1), (33, kB false)], [(1000000, kP 0 0)], [⟨.blk, 100, 1, 2, .c [.wh 1, .s (.er 38 .i64 none)]⟩, ⟨.row, 103, 2, 1, .c [.s (.u8 l0_0), .wh 2]⟩, nb 5 l0_1]⟩ ?_
   refine Vi (false) (fun hb => by cases hb) (fun _ => ?_)
   obtain ⟨g4, h⟩ := gd_some h
   refine Vg hT fN [] [.nlc 4 3 5 1 (.b []) none] [0, 4, 2, 5] (wOpen1_R l0_0 l0_1 l1 ()) (aP g4 aN) ?_
   exact ⟨.inr rfl, by cases h; rfl⟩
def wadd1_R (a0_0 : UInt8) (r : List UInt8) : S := ⟨[], [(1000000, kP 0 0)], [⟨.blk, 100, 1, 2, .c [.wh 1, .s (.er 38 .i64 none)]⟩, ⟨.row, 103, 2, 1, .c [.s (.u8 a0_0), .wh 2]⟩, nb 5 r]⟩
def wadd1_ct (n : Nat) (r : List UInt8) : CtM := ctM (cmm (mP 100 (mC (mR 103 2 1 (mC mU8 (mC (mB 5) mN))) (mC (mE0 38) mN))) fun y0 => cmc rU8.rd fun l1 => cmb fun l2 => cmR (wadd1 n y0.1.1 y0.1.2.1 l1 l2 = some r) (.t []) [⟨.blk, 100, 1, 2, .c [.wh 0, .s (.er 38 .i64 none)]⟩] [⟨.row, 103, 2, 1, .c [.s (.u8 y0.1.1), .wh 1]⟩, nb 5 r])
theorem wadd1_ok (n : Nat) (r : List UInt8) : FnMOk Try.prog 72 (wadd1_ct n r) := by
 refine fnokM Try.func72 ?_
 refine HM_m (mP 100 (mC (mR 103 2 1 (mC mU8 (mC (mB 5) mN))) (mC (mE0 38) mN))) (fun (p0 : ((((UInt8) × (List UInt8) × Unit)) × (Unit) × Unit)) => ?_) (allOwn_ok rfl)
 obtain ⟨⟨l0_0, l0_1, _⟩, _, _⟩ := p0
 refine HM_c rU8 fun l1 _ => HM_b 5 fun l2 => HM_0 tabO_nwa (wadd1_R l0_0 r) [] [0, 1, 2] 43 1 Try.func72 fun w bs h => ?_
 have h : wadd1 n l0_0 l0_1 l1 l2 = some r := h
 unfold wadd1 at h
 have hT := tabO_nwa
 obtain ⟨r13, g1, h⟩ := bind_some' h
 refine Vgs hT (fT 3 (tHead_ok n r13) fN) [] [] [0, 1, 2, 3, 4] ⟨[(0, kP 0 0), (2, kH 3), (6, kH 4), (7, kE 38 r13.2)], [(1000000, kP 0 0)], [⟨.blk, 100, 1, 2, .c [.wh 1, .s (.er 38 .i64 none)]⟩, ⟨.row, 103, 2, 1, .c [.s (.u8 l0_0), .wh 2]⟩, nb 5 l0_1, ob 5 l2, nb 5 r13.1]⟩ (aP g1 aN) ?_
 refine W_seq ?_
 refine Vrs hT [0, 1, 2, 3, 4] ⟨[(0, kP 0 0), (2, kH 3), (6, kH 4), (7, kE 38 r13.2), (17, kB (!((r13.2).isNone)))], [(1000000, kP 0 0)], [⟨.blk, 100, 1, 2, .c [.wh 1, .s (.er 38 .i64 none)]⟩, ⟨.row, 103, 2, 1, .c [.s (.u8 l0_0), .wh 2]⟩, nb 5 l0_1, ob 5 l2, nb 5 r13.1]⟩ ?_
 refine Vi ((!((r13.2).isNone))) (fun g9 => ?_) (fun g9 => ?_)
 ·replace h := bif_t h g9
  refine W_seq ?_
  cases h
 ·replace h := bif_f h g9
  refine W_skip ?_
  obtain ⟨g2, g3, g4, h⟩ := gd3 h
  refine Vds hT fN 10 [] [(2, false), (6, false), (24, false), (30, false)] [] [0, 1, 2, 3, 4] ⟨[(2, kH 3), (6, kH 4), (8, kP 1 0)], [(1000000, kP 0 0)], [⟨.blk, 100, 1, 2, .c [.wh 1, .s (.er 38 .i64 none)]⟩, ⟨.row, 103, 2, 1, .c [.s (.u8 l0_0), .wh 2]⟩, nb 5 l0_1, ob 5 l2, nb 5 r13.1]⟩ (aP g2 (aP g3 (aP g4 aN))) ?_
  obtain ⟨g5, g6, g7, g8, h⟩ := gd4 h
  refine Vg hT fN [] [] [0, 1, 6] (wadd1_R l0_0 ((l0_1 ++ r13.1) ++ l2)) (aP g5 (aP g6 (aP g7 (aP g8 aN)))) ?_
  exact ⟨.inr rfl, by cases h; rfl⟩
def wadd2_R (a0_0 : UInt8) (a0_1 : List UInt8) (a0_2 : UInt8) (r : List UInt8) : S := ⟨[], [(1000000, kP 0 0)], [⟨.blk, 100, 1, 2, .c [.wh 1, .s (.er 38 .i64 none)]⟩, ⟨.row, 103, 2, 2, .c [.s (.u8 a0_0), .wh 2, .s (.u8 a0_2), .wh 3]⟩, nb 5 a0_1, nb 5 r]⟩
def wadd2_ct (n : Nat) (r : List UInt8) : CtM := ctM (cmm (mP 100 (mC (mR 103 2 2 (mC mU8 (mC (mB 5) (mC mU8 (mC (mB 5) mN))))) (mC (mE0 38) mN))) fun y0 => cmc rU8.rd fun l1 => cmb fun l2 => cmR (wadd2 n y0.1.1 y0.1.2.1 y0.1.2.2.1 y0.1.2.2.2.1 l1 l2 = some r) (.t []) [⟨.blk, 100, 1, 2, .c [.wh 0, .s (.er 38 .i64 none)]⟩] [⟨.row, 103, 2, 2, .c [.s (.u8 y0.1.1), .wh 1, .s (.u8 y0.1.2.2.1), .wh 2]⟩, nb 5 y0.1.2.1, nb 5 r])
theorem wadd2_ok (n : Nat) (r : List UInt8) : FnMOk Try.prog 72 (wadd2_ct n r) := by
 refine fnokM Try.func72 ?_
 refine HM_m (mP 100 (mC (mR 103 2 2 (mC mU8 (mC (mB 5) (mC mU8 (mC (mB 5) mN))))) (mC (mE0 38) mN))) (fun (p0 : ((((UInt8) × (List UInt8) × (UInt8) × (List UInt8) × Unit)) × (Unit) × Unit)) => ?_) (allOwn_ok rfl)
 obtain ⟨⟨l0_0, l0_1, l0_2, l0_3, _⟩, _, _⟩ := p0
 refine HM_c rU8 fun l1 _ => HM_b 5 fun l2 => HM_0 tabO_nwa (wadd2_R l0_0 l0_1 l0_2 r) [] [0, 1, 2, 3] 43 1 Try.func72 fun w bs h => ?_
 have h : wadd2 n l0_0 l0_1 l0_2 l0_3 l1 l2 = some r := h
 unfold wadd2 at h
 have hT := tabO_nwa
 obtain ⟨r13, g1, h⟩ := bind_some' h
 refine Vgs hT (fT 3 (tHead_ok n r13) fN) [] [] [0, 1, 2, 3, 4, 5] ⟨[(0, kP 0 0), (2, kH 4), (6, kH 5), (7, kE 38 r13.2)], [(1000000, kP 0 0)], [⟨.blk, 100, 1, 2, .c [.wh 1, .s (.er 38 .i64 none)]⟩, ⟨.row, 103, 2, 2, .c [.s (.u8 l0_0), .wh 2, .s (.u8 l0_2), .wh 3]⟩, nb 5 l0_1, nb 5 l0_3, ob 5 l2, nb 5 r13.1]⟩ (aP g1 aN) ?_
 refine W_seq ?_
 refine Vrs hT [0, 1, 2, 3, 4, 5] ⟨[(0, kP 0 0), (2, kH 4), (6, kH 5), (7, kE 38 r13.2), (17, kB (!((r13.2).isNone)))], [(1000000, kP 0 0)], [⟨.blk, 100, 1, 2, .c [.wh 1, .s (.er 38 .i64 none)]⟩, ⟨.row, 103, 2, 2, .c [.s (.u8 l0_0), .wh 2, .s (.u8 l0_2), .wh 3]⟩, nb 5 l0_1, nb 5 l0_3, ob 5 l2, nb 5 r13.1]⟩ ?_
 refine Vi ((!((r13.2).isNone))) (fun g9 => ?_) (fun g9 => ?_)
 ·replace h := bif_t h g9
  refine W_seq ?_
  cases h
 ·replace h := bif_f h g9
  refine W_skip ?_
  obtain ⟨g2, g3, g4, h⟩ := gd3 h
  refine Vds hT fN 10 [] [(2, false), (6, false), (24, false), (30, false)] [] [0, 1, 2, 3, 4, 5] ⟨[(2, kH 4), (6, kH 5), (8, kP 1 2)], [(1000000, kP 0 0)], [⟨.blk, 100, 1, 2, .c [.wh 1, .s (.er 38 .i64 none)]⟩, ⟨.row, 103, 2, 2, .c [.s (.u8 l0_0), .wh 2, .s (.u8 l0_2), .wh 3]⟩, nb 5 l0_1, nb 5 l0_3, ob 5 l2, nb 5 r13.1]⟩ (aP g2 (aP g3 (aP g4 aN))) ?_
  obtain ⟨g5, g6, g7, g8, h⟩ := gd4 h
  refine Vg hT fN [] [] [0, 1, 2, 7] (wadd2_R l0_0 l0_1 l0_2 ((l0_3 ++ r13.1) ++ l2)) (aP g5 (aP g6 (aP g7 (aP g8 aN)))) ?_
  exact ⟨.inr rfl, by cases h; rfl⟩
def wPut2_R (a0_0 : UInt8) (a0_1 : List UInt8) (a0_2 : UInt8) (r : List UInt8) : S := ⟨[], [(1000000, kP 0 0)], [⟨.blk, 100, 1, 2, .c [.wh 1, .s (.er 38 .i64 none)]⟩, ⟨.row, 103, 2, 2, .c [.s (.u8 a0_0), .wh 2, .s (.u8 a0_2), .wh 3]⟩, nb 5 a0_1, nb 5 r]⟩
def wPut2_ct (n : Nat) (r : List UInt8) : CtM := ctM (cmm (mP 100 (mC (mR 103 2 2 (mC mU8 (mC (mB 5) (mC mU8 (mC (mB 5) mN))))) (mC (mE0 38) mN))) fun y0 => cmc rU8.rd fun l1 => cmb fun l2 => cmR (wPut2 n y0.1.1 y0.1.2.1 y0.1.2.2.1 y0.1.2.2.2.1 l1 l2 = some r) (.t []) [⟨.blk, 100, 1, 2, .c [.wh 0, .s (.er 38 .i64 none)]⟩] [⟨.row, 103, 2, 2, .c [.s (.u8 y0.1.1), .wh 1, .s (.u8 y0.1.2.2.1), .wh 2]⟩, nb 5 y0.1.2.1, nb 5 r])
theorem wPut2_ok (n : Nat) (r : List UInt8) : FnMOk Try.prog 44 (wPut2_ct n r) := by
 refine fnokM Try.func44 ?_
 refine HM_m (mP 100 (mC (mR 103 2 2 (mC mU8 (mC (mB 5) (mC mU8 (mC (mB 5) mN))))) (mC (mE0 38) mN))) (fun (p0 : ((((UInt8) × (List UInt8) × (UInt8) × (List UInt8) × Unit)) × (Unit) × Unit)) => ?_) (allOwn_ok rfl)
 obtain ⟨⟨l0_0, l0_1, l0_2, l0_3, _⟩, _, _⟩ := p0
 refine HM_c rU8 fun l1 _ => HM_b 5 fun l2 => HM_0 tabO_nwa (wPut2_R l0_0 l0_1 l0_2 r) [] [0, 1, 2, 3] 27 1 Try.func44 fun w bs h => ?_
 have h : wPut2 n l0_0 l0_1 l0_2 l0_3 l1 l2 = some r := h
 unfold wPut2 at h
 have hT := tabO_nwa
 refine W_block ?_
 refine Vrs hT [0, 1, 2, 3, 4] ⟨[(0, kP 0 0), (1, kU l1), (2, kH 4), (10, kB false)], [(1000000, kP 0 0)], [⟨.blk, 100, 1, 2, .c [.wh 1, .s (.er 38 .i64 none)]⟩, ⟨.row, 103, 2, 2, .c [.s (.u8 l0_0), .wh 2, .s (.u8 l0_2), .wh 3]⟩, nb 5 l0_1, nb 5 l0_3, ob 5 l2]⟩ ?_
 refine Vi (false) (fun hb => by cases hb) (fun _ => ?_)
 refine W_seq ?_
 obtain ⟨r18, g1, h⟩ := bind_some' h
 rcases Bool.eq_false_or_eq_true (!r18) with g2 | g2
 ·replace h := bif_t h g2
  refine Vg hT (fT 1 (tvalid_ok n r18) fN) [(3, true)] [] [0, 1, 2, 3, 4] ⟨[(0, kP 0 0), (1, kU l1), (2, kH 4), (16, kB true)], [(1000000, kP 0 0)], [⟨.blk, 100, 1, 2, .c [.wh 1, .s (.er 38 .i64 none)]⟩, ⟨.row, 103, 2, 2, .c [.s (.u8 l0_0), .wh 2, .s (.u8 l0_2), .wh 3]⟩, nb 5 l0_1, nb 5 l0_3, ob 5 l2]⟩ (aP g1 (aP g2 aN)) ?_
  refine Vi (true) (fun _ => ?_) (fun hb => by cases hb)
  cases h
 ·replace h := bif_f h g2
  obtain ⟨r22, g3, h⟩ := bind_some' h
  refine Vg hT (fT 1 (tvalid_ok n r18) (fT 5 (tisW_ok n r22) fN)) [(3, false)] [] [0, 1, 2, 3, 4] ⟨[(0, kP 0 0), (1, kU l1), (2, kH 4), (16, kB r22)], [(1000000, kP 0 0)], [⟨.blk, 100, 1, 2, .c [.wh 1, .s (.er 38 .i64 none)]⟩, ⟨.row, 103, 2, 2, .c [.s (.u8 l0_0), .wh 2, .s (.u8 l0_2), .wh 3]⟩, nb 5 l0_1, nb 5 l0_3, ob 5 l2]⟩ (aP g1 (aP g2 (aP g3 aN))) ?_
  refine Vi (r22) (fun g5 => ?_) (fun g5 => ?_)
  ·replace h := bif_t h g5
   cases h
  ·replace h := bif_f h g5
   obtain ⟨r9, g4, h⟩ := bind_some' h
   refine Vg hT (fM 3 (wadd2_ok n r9) fN) [] [] [0, 5, 6, 7] (wPut2_R l0_0 l0_1 l0_2 r9) (aP g4 aN) ?_
   exact ⟨.inr rfl, by cases h; rfl⟩
def wClose2_R (a0_0 : UInt8) (r : List UInt8) : S := ⟨[], [(1000000, kP 0 0)], [⟨.blk, 100, 1, 2, .c [.wh 1, .s (.er 38 .i64 none)]⟩, ⟨.row, 103, 2, 1, .c [.s (.u8 a0_0), .wh 2]⟩, nb 5 r]⟩
def wClose2_ct (n : Nat) (r : List UInt8) : CtM := ctM (cmm (mP 100 (mC (mR 103 2 2 (mC mU8 (mC (mB 5) (mC mU8 (mC (mB 5) mN))))) (mC (mE0 38) mN))) fun y0 => cmR (wClose2 n y0.1.1 y0.1.2.1 y0.1.2.2.1 y0.1.2.2.2.1 = some r) (.t []) [⟨.blk, 100, 1, 2, .c [.wh 0, .s (.er 38 .i64 none)]⟩] [⟨.row, 103, 2, 1, .c [.s (.u8 y0.1.1), .wh 1]⟩, nb 5 r])
theorem wClose2_ok (n : Nat) (r : List UInt8) : FnMOk Try.prog 45 (wClose2_ct n r) := by
 refine fnokM Try.func45 ?_
 refine HM_m (mP 100 (mC (mR 103 2 2 (mC mU8 (mC (mB 5) (mC mU8 (mC (mB 5) mN))))) (mC (mE0 38) mN))) (fun (p0 : ((((UInt8) × (List UInt8) × (UInt8) × (List UInt8) × Unit)) × (Unit) × Unit)) => ?_) (allOwn_ok rfl)
 obtain ⟨⟨l0_0, l0_1, l0_2, l0_3, _⟩, _, _⟩ := p0
 refine HM_0 tabO_nwa (wClose2_R l0_0 r) [] [0, 1, 2] 51 1 Try.func45 fun w bs h => ?_
 have h : wClose2 n l0_0 l0_1 l0_2 l0_3 = some r := h
 unfold wClose2 at h
 have hT := tabO_nwa
 refine W_block ?_
 refine Vrs hT [0, 1, 2, 3] ⟨[(0, kP 0 0), (35, kB false)], [(1000000, kP 0 0)], [⟨.blk, 100, 1, 2, .c [.wh 1, .s (.er 38 .i64 none)]⟩, ⟨.row, 103, 2, 2, .c [.s (.u8 l0_0), .wh 2, .s (.u8 l0_2), .wh 3]⟩, nb 5 l0_1, nb 5 l0_3]⟩ ?_
 refine Vi (false) (fun hb => by cases hb) (fun _ => ?_)
 refine Vrs hT [0, 1, 2, 3] ⟨[(0, kP 0 0), (41, kB false)], [(1000000, kP 0 0)], [⟨.blk, 100, 1, 2, .c [.wh 1, .s (.er 38 .i64 none)]⟩, ⟨.row, 103, 2, 2, .c [.s (.u8 l0_0), .wh 2, .s (.u8 l0_2), .wh 3]⟩, nb 5 l0_1, nb 5 l0_3]⟩ ?_
 refine Vi (false) (fun hb => by cases hb) (fun _ => ?_)
 obtain ⟨g1, g2, g3, g4, h⟩ := gd4 h
 refine Vds hT fN 13 [] [(0, false), (2, false), (14, false)] [] [0, 1, 2, 3, 4] ⟨[(0, kP 0 0), (2, kP 4 0)], [(1000000, kP 0 0)], [⟨.blk, 100, 1, 2, .c [.wh 1, .s (.er 38 .i64 none)]⟩, ⟨.row, 103, 2, 2, .c [.s (.u8 l0_0), .wh 2, .s (.u8 l0_2), .wh 3]⟩, nb 5 l0_1, nb 5 l0_3, ⟨.blk, 103, 1, 2, .c [.s (.u8 l0_2), .wh 3]⟩]⟩ (aP g1 (aP g2 (aP g3 (aP g4 aN)))) ?_
 obtain ⟨g5, g6, g7, h⟩ := gd3 h
 refine Vds hT fN 13 [] [(0, false), (2, false), (26, false), (27, false)] [.cut 0 0] [0, 5, 2, 4, 3] ⟨[(0, kP 0 0), (2, kP 3 0)], [(1000000, kP 0 0)], [⟨.blk, 100, 1, 2, .c [.wh 1, .s (.er 38 .i64 none)]⟩, ⟨.row, 103, 2, 1, .c [.s (.u8 l0_0), .wh 2]⟩, nb 5 l0_1, ⟨.blk, 103, 1, 2, .c [.s (.u8 l0_2), .wh 4]⟩, nb 5 l0_3]⟩ (aP g5 (aP g6 (aP g7 aN))) ?_
 obtain ⟨r34, g8, h⟩ := bind_some' h
 refine Vg hT (fM 5 (wadd1_ok n r34) fN) [] [] [0, 5, 6] (wClose2_R l0_0 r34) (aP g8 aN) ?_
 exact ⟨.inr rfl, by cases h; rfl⟩
def wBytes1_R (a0_0 : UInt8) (a0_1 : List UInt8) (r : Unit) : S := ⟨[(2, kH 3), (3, kE 38 none)], [(1000000, kP 0 0)], [⟨.blk, 100, 1, 2, .c [.wh 1, .s (.er 38 .i64 none)]⟩, ⟨.row, 103, 2, 1, .c [.s (.u8 a0_0), .wh 2]⟩, nb 5 a0_1, nb 5 a0_1]⟩
def wBytes1_ct (n : Nat) (r : Unit) : CtM := ctM (cmm (mP 100 (mC (mR 103 2 1 (mC mU8 (mC (mB 5) mN))) (mC (mE0 38) mN))) fun y0 => cmR (wBytes1 n y0.1.1 y0.1.2.1 = some r) (.t [.c (.wh 2), .c (.s (.er 38 .i64 none))]) [⟨.blk, 100, 1, 2, .c [.wh 0, .s (.er 38 .i64 none)]⟩] [⟨.row, 103, 2, 1, .c [.s (.u8 y0.1.1), .wh 1]⟩, nb 5 y0.1.2.1, nb 5 y0.1.2.1])
theorem wBytes1_ok (n : Nat) (r : Unit) : FnMOk Try.prog 46 (wBytes1_ct n r) := by
 refine fnokM Try.func46 ?_
 refine HM_m (mP 100 (mC (mR 103 2 1 (mC mU8 (mC (mB 5) mN))) (mC (mE0 38) mN))) (fun (p0 : ((((UInt8) × (List UInt8) × Unit)) × (Unit) × Unit)) => ?_) (allOwn_ok rfl)
 obtain ⟨⟨l0_0, l0_1, _⟩, _, _⟩ := p0
 refine HM_0 tabO_nwa (wBytes1_R l0_0 l0_1 r) [.tmp 2, .tmp 3] [0, 1, 2, 3] 30 1 Try.func46 fun w bs h => ?_
 have h : wBytes1 n l0_0 l0_1 = some r := h
 unfold wBytes1 at h
 have hT := tabO_nwa
 refine Vrs hT [0, 1, 2] ⟨[(0, kP 0 0)], [(1000000, kP 0 0)], [⟨.blk, 100, 1, 2, .c [.wh 1, .s (.er 38 .i64 none)]⟩, ⟨.row, 103, 2, 1, .c [.s (.u8 l0_0), .wh 2]⟩, nb 5 l0_1]⟩ ?_
 refine W_seq ?_
 refine W_block ?_
 refine Vrs hT [0, 1, 2] ⟨[(0, kP 0 0), (4, kB false)], [(1000000, kP 0 0)], [⟨.blk, 100, 1, 2, .c [.wh 1, .s (.er 38 .i64 none)]⟩, ⟨.row, 103, 2, 1, .c [.s (.u8 l0_0), .wh 2]⟩, nb 5 l0_1]⟩ ?_
 refine Vi (false) (fun hb => by cases hb) (fun _ => ?_)
 refine Vrs hT [0, 1, 2] ⟨[(0, kP 0 0), (14, kB false)], [(1000000, kP 0 0)], [⟨.blk, 100, 1, 2, .c [.wh 1, .s (.er 38 .i64 none)]⟩, ⟨.row, 103, 2, 1, .c [.s (.u8 l0_0), .wh 2]⟩, nb 5 l0_1]⟩ ?_
 refine Vi (false) (fun hb => by cases hb) (fun _ => ?_)
 refine W_skip ?_
 obtain ⟨g1, g2, g3, g4, h⟩ := gd4 h
 refine Vgs hT (fT 7 cloneb_h fN) [] [] [0, 1, 2, 3] ⟨[(2, kH 3), (3, .c (.s (.v .nilIface)))], [(1000000, kP 0 0)], [⟨.blk, 100, 1, 2, .c [.wh 1, .s (.er 38 .i64 none)]⟩, ⟨.row, 103, 2, 1, .c [.s (.u8 l0_0), .wh 2]⟩, nb 5 l0_1, nb 5 l0_1]⟩ (aP g1 (aP g2 (aP g3 (aP g4 aN)))) ?_
 refine Vc [.er 3 38 .i64] [0, 1, 2, 3] (wBytes1_R l0_0 l0_1 ()) (W_ret ?_)
 exact ⟨.inl rfl, by cases h; rfl⟩
end Go.Proofs.Ytobfglafchoipaa
end
section
namespace Go.Proofs.Ytobfglafchoipaa
open Go.RowKit Go.Ch Go.Sx Go.Lib Go.Proofs
theorem bytesOf_sl {P : Program} (w : World) {B : Nat} {v : Value} {l : List UInt8} (hv : Sl w B v (l.map bU)) : (Extern.Bytes.bytesOf v).run P w = .ok ⟨l.toArray⟩ w := by
 obtain ⟨_, A, c, rfl, _, _, _, h4⟩ := hv
 cases A with
 | none =>
  have hl : l = [] := by
   cases l with
   | nil => rfl
   | cons x l => have h1 := ‹(List.map bU (x :: l)).length ≤ c›; have h2 := ‹(none : Option Addr) = none → c = 0› rfl; simp at h1; omega
  subst hl
  simp [Extern.Bytes.bytesOf]; rfl
 | some a =>
  have e : l.map bU = (l.map fun x => ((x.toNat : Nat) : Int)).map (Value.int .u8) := by simp [bU, Function.comp_def]
  have h := run_loadBytesX (P := P) w (l.map fun x => ((x.toNat : Nat) : Int)) a .empty (fun j x hx => (h4 a rfl j _ (by rw [e, List.getElem?_map, hx]; rfl)).2)
  simp only [Extern.Bytes.bytesOf, List.length_map] at h ⊢
  rw [h]
  congr 1
  apply ByteArray.ext
  have e2 : Go.Lib.bytesOf (l.map fun x => ((x.toNat : Nat) : Int)) = l := by
   unfold Go.Lib.bytesOf
   rw [List.map_map]
   conv => rhs; rw [← List.map_id l]
   apply List.map_congr_left; intro x _; simp
  rw [e2]
  simp
set_option maxHeartbeats 1000000 in
set_option maxRecDepth 100000 in
theorem cmp_c (w : World) (B0 B1 : Nat) (v0 v1 : Value) (l0 l1 : List UInt8) (h0 : Sl w B0 v0 (l0.map bU)) (h1 : Sl w B1 v1 (l1.map bU)) :
  Calls Try.prog 27 #[v0, v1] w (Ret fun v w' => Ext w w' ∧ v = .int .i64 (Lib.compareBytes l0 l1)) := by
 go_enter Try.func27, Try.ntmps27
 go_wp2
 rw [run_callFunc_extern Try.func47 (by kernel_rfl) (by kernel_rfl) (by kernel_rfl) (e := Extern.BytealgCompare.compare) (by kernel_rfl)]
 have hr : (Extern.BytealgCompare.compare #[v0, v1]).run Try.prog w = .ok (.int .i64 (Lib.compareBytes l0 l1)) w := by
  change Sem.run Try.prog (do pure (goInt (Extern.BytealgCompare.cmp (← Extern.Bytes.bytesOf v0) (← Extern.Bytes.bytesOf v1)))) w = _
  simp only [Sem.run_bind, bytesOf_sl w h0, bytesOf_sl w h1, Sem.run_pure, Result.andThen]
  rw [cmp_eq]
  rfl
 rw [hr]
 simp only [Result.andThen]
 rw [Oper.upon_value]
 go_wp2
 go_ret
 exact ⟨_, rfl, Below.refl _ _, rfl⟩
def cmp_ct : Ct := ctc aB fun _ l0 => ctc aB fun _ l1 => ct0 fun _ => ([], kI (Lib.compareBytes l0 l1), [])
theorem cmp_h : FnOk Try.prog Tr 27 cmp_ct := by
 refine ⟨fun args H g av objs hF hg ρ w vals hG hp ha => ?_, _, Try.func27, by kernel_rfl, by kernel_rfl⟩
 obtain ⟨x0, _, l0, rfl, e0, hF⟩ := ctc_inv hF
 obtain ⟨x1, _, l1, rfl, e1, hF⟩ := ctc_inv hF
 obtain ⟨rfl, rfl, rfl, rfl⟩ := ct0_inv hF
 obtain ⟨v0, vals, rfl, k0, ha⟩ := F2.inv ha
 obtain ⟨v1, vals, rfl, k1, ha⟩ := F2.inv ha
 obtain rfl := F2.inv0 ha
 obtain ⟨p0, hI0⟩ := aB_ok hp e0 k0 5
 obtain ⟨p1, hI1⟩ := aB_ok hp e1 k1 5
 exact calls_mono (cmp_c w _ _ v0 v1 l0 l1 (hI0.sl (fun _ _ h => csR_b.1 h) (by simp)) (hI1.sl (fun _ _ h => csR_b.1 h) (by simp))) fun v w' ⟨hx, hv⟩ => ⟨hx, left_val fun ρ => hv⟩
end Go.Proofs.Ytobfglafchoipaa
end
section
namespace Go.Proofs.Ytobfglafchoipaa
open Go.RowKit Go.Ch Go.Sx
def tabL_nma : List (TypeId × Ti) := [(3, ⟨.int .i64, 1, 8, true, some [.int .i64]⟩),
 (5, ⟨.int .u8, 1, 1, true, some [.int .u8]⟩),
 (9, ⟨.str, 1, 16, true, some [.str]⟩),
 (22, ⟨.sl 5, 1, 24, false, some [.nils]⟩),
 (27, ⟨.sl 47, 1, 24, false, some [.nils]⟩),
 (32, ⟨.ifc, 1, 16, true, some [.ifc]⟩),
 (38, ⟨.int .i64, 1, 8, true, some [.int .i64]⟩),
 (44, ⟨.sl 92, 1, 24, false, some [.nils]⟩),
 (46, ⟨.st [(44, 0), (5, 1), (22, 2)], 3, 56, false, some [.nils, .int .u8, .nils]⟩),
 (47, ⟨.sl 46, 1, 24, false, some [.nils]⟩),
 (92, ⟨.int .u32, 1, 4, true, some [.int .u32]⟩)]
def tab_nma : Tab := fun t => (tabL_nma).lookup t
theorem tabE_nma : (tabL_nma.map fun p => tiOf Try.prog p.1) = tabL_nma.map fun p => some p.2 := by kernel_rfl
theorem tabO_nma : TabOk Try.prog tab_nma := tab_of tabE_nma
def nAttr (n : Nat) (a0_0 : List UInt32) (a0_1 : UInt8) (a0_2 : List UInt8) : Option (List UInt8 × Option Int) :=
 (pOid n a0_0).bind fun r10 =>
 bif (!((r10.2).isNone)) then
  some ([], (some 1))
 else
  bif (a0_1 != 12) then
   bif (a0_1 != 19) then
    some ([], (some 1))
   else
    bif (decide (((a0_2.length : Nat) : Int) < (1 : Int))) then
     some ([], (some 1))
    else
     bif (decide ((64 : Int) < ((a0_2.length : Nat) : Int))) then
      some ([], (some 1))
     else
      (pText n a0_1 a0_2).bind fun r42 =>
      bif (!((r42).isNone)) then
       some ([], (some 1))
      else
       (wNew n).bind fun r46 =>
       (wOpen1 n 0 [] 48).bind fun r48 =>
       (wPut2 n 0 [] 48 [] 6 r10.1).bind fun r51 =>
       (wPut2 n 0 [] 48 r51 a0_1 a0_2).bind fun r57 =>
       (wClose2 n 0 [] 48 r57).bind fun r59 =>
       (wBytes1 n 0 r59).bind fun r61 =>
       some (r59, none)
  else
   bif (decide (((a0_2.length : Nat) : Int) < (1 : Int))) then
    some ([], (some 1))
   else
    bif (decide ((64 : Int) < ((a0_2.length : Nat) : Int))) then
     some ([], (some 1))
    else
     (pText n a0_1 a0_2).bind fun r42 =>
     bif (!((r42).isNone)) then
      some ([], (some 1))
     else
      (wNew n).bind fun r46 =>
      (wOpen1 n 0 [] 48).bind fun r48 =>
      (wPut2 n 0 [] 48 [] 6 r10.1).bind fun r51 =>
      (wPut2 n 0 [] 48 r51 a0_1 a0_2).bind fun r57 =>
      (wClose2 n 0 [] 48 r57).bind fun r59 =>
      (wBytes1 n 0 r59).bind fun r61 =>
      some (r59, none)
def nWrite_l2 (n : Nat) (a0 : List (List (List UInt32 × (UInt8 × List UInt8)))) (l4_1 : List UInt8) (i23_1 : Int) (k_l1 : (List UInt8) → Int → Option (List UInt8 × Option Int)) : Nat → List UInt8 → List UInt8 → Int → Option (List UInt8 × Option Int)
 | 0, _, _, _ => none
 | fu_l2 + 1, l7_5, l8_5, i38_5 =>
  bif (decide (i38_5 < (((a0.getD i23_1.toNat []).length : Nat) : Int))) then
   gd (0 ≤ i38_5) <|
   gd (i38_5 < (((a0.getD i23_1.toNat []).length : Nat) : Int)) <|
   (nAttr n (((a0.getD i23_1.toNat []).getD i38_5.toNat ([], (0, []))).1) (((a0.getD i23_1.toNat []).getD i38_5.toNat ([], (0, []))).2.1) (((a0.getD i23_1.toNat []).getD i38_5.toNat ([], (0, []))).2.2)).bind fun r45_8 =>
   bif (!((r45_8.2).isNone)) then
    some ([], (some 1))
   else
    bif (decide ((0 : Int) < i38_5)) then
     bif (decide ((0 : Int) ≤ (Lib.compareBytes l8_5 r45_8.1))) then
      some ([], (some 1))
     else
      gd (rmB (l7_5.length + r45_8.1.length) 1) <|
      gd (okI .i64 (i38_5 + 1)) <|
      (nWrite_l2 n a0 l4_1 i23_1 k_l1 fu_l2) (l7_5 ++ r45_8.1) r45_8.1 (i38_5 + 1)
    else
     gd (rmB (l7_5.length + r45_8.1.length) 1) <|
     gd (okI .i64 (i38_5 + 1)) <|
     (nWrite_l2 n a0 l4_1 i23_1 k_l1 fu_l2) (l7_5 ++ r45_8.1) r45_8.1 (i38_5 + 1)
  else
   (tHead n 49 ((l7_5.length : Nat) : Int)).bind fun r69_5 =>
   bif (!((r69_5.2).isNone)) then
    some ([], (some 1))
   else
    gd (rmB (l4_1.length + r69_5.1.length) 1) <|
    gd (rmB (((l4_1 ++ r69_5.1).length) + l7_5.length) 1) <|
    gd (okI .i64 (i23_1 + 1)) <|
    k_l1 ((l4_1 ++ r69_5.1) ++ l7_5) (i23_1 + 1)
def nWrite_l1 (n : Nat) (a0 : List (List (List UInt32 × (UInt8 × List UInt8)))) : Nat → List UInt8 → Int → Option (List UInt8 × Option Int)
 | 0, _, _ => none
 | fu_l1 + 1, l4_1, i23_1 =>
  bif (decide (i23_1 < ((a0.length : Nat) : Int))) then
   gd (0 ≤ i23_1) <|
   gd (i23_1 < ((a0.length : Nat) : Int)) <|
   bif (decide ((((a0.getD i23_1.toNat []).length : Nat) : Int) < (1 : Int))) then
    some ([], (some 1))
   else
    bif (decide ((4 : Int) < (((a0.getD i23_1.toNat []).length : Nat) : Int))) then
     some ([], (some 1))
    else
     nWrite_l2 n a0 l4_1 i23_1 (nWrite_l1 n a0 fu_l1) n [] [] 0
  else
   (tHead n 48 ((l4_1.length : Nat) : Int)).bind fun r84_1 =>
   bif (!((r84_1.2).isNone)) then
    some ([], (some 1))
   else
    gd (rmB (r84_1.1.length + l4_1.length) 1) <|
    some ((r84_1.1 ++ l4_1), none)
def nWrite (n : Nat) (a0 : List (List (List UInt32 × (UInt8 × List UInt8)))) : Option (List UInt8 × Option Int) :=
 bif (decide ((8 : Int) < ((a0.length : Nat) : Int))) then
 some ([], (some 1))
 else
 nWrite_l1 n a0 n [] 0
def nCheck (n : Nat) (a0 : List (List (List UInt32 × (UInt8 × List UInt8)))) : Option (Option Int) :=
 (nWrite n a0).bind fun r7 =>
 some r7.2
def nAttr_R (r : List UInt8 × Option Int) : S := ⟨[(2, kH 0), (3, kE 38 r.2)], [], [nb 5 r.1]⟩
def nAttr_ct (n : Nat) (r : List UInt8 × Option Int) : Ct := ctc (rSt (lC (cW 92) (lC cU8 (lC (cB 5) lN)))).rd fun _ y0 => ct0 fun H => ([nAttr n y0.1 y0.2.1 y0.2.2.1 = some r], shA H.length (.t [.c (.wh 0), .c (.s (.er 38 .i64 r.2))]), shH H.length [nb 5 r.1])
theorem nAttr_ok (n : Nat) (r : List UInt8 × Option Int) : FnOk Try.prog Tr 26 (nAttr_ct n r) := by
 refine fnok Try.func26 ?_
 refine HO_c (rSt (lC (cW 92) (lC cU8 (lC (cB 5) lN)))) fun p0 _ => ?_
 obtain ⟨l0_0, l0_1, l0_2, _⟩ := p0
 refine HO_0 tabO_nma (nAttr_R r) [.tmp 2, .tmp 3] [0] 64 Try.func26 fun w hG h => ?_
 have h : nAttr n l0_0 l0_1 l0_2 = some r := h
 unfold nAttr at h
 have hT := tabO_nma
 refine Vrs hT [2, 0, 1] ⟨[(1, kP 0 0)], [], [⟨.blk, 46, 1, 3, .c [.wh 1, .s (.u8 l0_1), .wh 2]⟩, ow 92 l0_0, ob 5 l0_2]⟩ ?_
 obtain ⟨r10, g1, h⟩ := bind_some' h
 refine Vgs hT (fT 2 (pOid_ok n r10) fN) [] [] [0, 1, 2, 3] ⟨[(1, kP 0 0), (4, kH 3), (5, kE 38 r10.2)], [], [⟨.blk, 46, 1, 3, .c [.wh 1, .s (.u8 l0_1), .wh 2]⟩, ow 92 l0_0, ob 5 l0_2, nb 5 r10.1]⟩ (aP g1 aN) ?_
 refine W_seq ?_
 refine W_seq ?_
 rcases Bool.eq_false_or_eq_true (!((r10.2).isNone)) with g2 | g2
 ·replace h := bif_t h g2
  refine Vg hT fN [(2, true)] [] [0, 1, 2, 3] ⟨[(1, kP 0 0), (4, kH 3), (44, kB true)], [], [⟨.blk, 46, 1, 3, .c [.wh 1, .s (.u8 l0_1), .wh 2]⟩, ow 92 l0_0, ob 5 l0_2, nb 5 r10.1]⟩ (aP g2 aN) ?_
  refine Vi (true) (fun _ => ?_) (fun hb => by cases hb)
  refine Vrs hT [] ⟨[(2, .c (.nils)), (3, kE 38 (some 1))], [], []⟩ ?_
  refine Vc [.nil 2 5 1 (.b [])] [0] (nAttr_R ([], (some 1))) (W_ret ?_)
  exact ⟨.inl rfl, by cases h; rfl⟩
 ·replace h := bif_f h g2
  rcases Bool.eq_false_or_eq_true (l0_1 != 12) with g3 | g3
  ·replace h := bif_t h g3
   rcases Bool.eq_false_or_eq_true (l0_1 != 19) with g4 | g4
   ·replace h := bif_t h g4
    refine Vg hT fN [(2, false), (6, true), (12, true)] [] [0, 1, 2, 3] ⟨[(1, kP 0 0), (4, kH 3), (44, kB true)], [], [⟨.blk, 46, 1, 3, .c [.wh 1, .s (.u8 l0_1), .wh 2]⟩, ow 92 l0_0, ob 5 l0_2, nb 5 r10.1]⟩ (aP g2 (aP g3 (aP g4 aN))) ?_
    refine Vi (true) (fun _ => ?_) (fun hb => by cases hb)
    refine Vrs hT [] ⟨[(2, .c (.nils)), (3, kE 38 (some 1))], [], []⟩ ?_
    refine Vc [.nil 2 5 1 (.b [])] [0] (nAttr_R ([], (some 1))) (W_ret ?_)
    exact ⟨.inl rfl, by cases h; rfl⟩
   ·replace h := bif_f h g4
    rcases Bool.eq_false_or_eq_true (decide (((l0_2.length : Nat) : Int) < (1 : Int))) with g5 | g5
    ·replace h := bif_t h g5
     refine Vg hT fN [(2, false), (6, true), (12, false), (18, true)] [] [0, 1, 2, 3] ⟨[(1, kP 0 0), (4, kH 3), (44, kB true)], [], [⟨.blk, 46, 1, 3, .c [.wh 1, .s (.u8 l0_1), .wh 2]⟩, ow 92 l0_0, ob 5 l0_2, nb 5 r10.1]⟩ (aP g2 (aP g3 (aP g4 (aP g5 aN)))) ?_
     refine Vi (true) (fun _ => ?_) (fun hb => by cases hb)
     refine Vrs hT [] ⟨[(2, .c (.nils)), (3, kE 38 (some 1))], [], []⟩ ?_
     refine Vc [.nil 2 5 1 (.b [])] [0] (nAttr_R ([], (some 1))) (W_ret ?_)
     exact ⟨.inl rfl, by cases h; rfl⟩
    ·replace h := bif_f h g5
     rcases Bool.eq_false_or_eq_true (decide ((64 : Int) < ((l0_2.length : Nat) : Int))) with g6 | g6
     ·replace h := bif_t h g6
      refine Vg hT fN [(2, false), (6, true), (12, false), (18, false), (24, true)] [] [0, 1, 2, 3] ⟨[(1, kP 0 0), (4, kH 3), (44, kB true)], [], [⟨.blk, 46, 1, 3, .c [.wh 1, .s (.u8 l0_1), .wh 2]⟩, ow 92 l0_0, ob 5 l0_2, nb 5 r10.1]⟩ (aP g2 (aP g3 (aP g4 (aP g5 (aP g6 aN))))) ?_
      refine Vi (true) (fun _ => ?_) (fun hb => by cases hb)
      refine Vrs hT [] ⟨[(2, .c (.nils)), (3, kE 38 (some 1))], [], []⟩ ?_
      refine Vc [.nil 2 5 1 (.b [])] [0] (nAttr_R ([], (some 1))) (W_ret ?_)
      exact ⟨.inl rfl, by cases h; rfl⟩
     ·replace h := bif_f h g6
      obtain ⟨r42, g7, h⟩ := bind_some' h
      refine Vg hT (fT 29 (pText_ok n r42) fN) [(2, false), (6, true), (12, false), (18, false), (24, false)] [] [0, 1, 2, 3] ⟨[(1, kP 0 0), (4, kH 3), (44, kB (!((r42).isNone)))], [], [⟨.blk, 46, 1, 3, .c [.wh 1, .s (.u8 l0_1), .wh 2]⟩, ow 92 l0_0, ob 5 l0_2, nb 5 r10.1]⟩ (aP g2 (aP g3 (aP g4 (aP g5 (aP g6 (aP g7 aN)))))) ?_
      refine Vi ((!((r42).isNone))) (fun g14 => ?_) (fun g14 => ?_)
      ·replace h := bif_t h g14
       refine Vrs hT [] ⟨[(2, .c (.nils)), (3, kE 38 (some 1))], [], []⟩ ?_
       refine Vc [.nil 2 5 1 (.b [])] [0] (nAttr_R ([], (some 1))) (W_ret ?_)
       exact ⟨.inl rfl, by cases h; rfl⟩
      ·replace h := bif_f h g14
       refine W_skip ?_
       obtain ⟨r46, g8, h⟩ := bind_some' h
       refine Vgs hT (fT 0 (wNew_ok n r46) fN) [] [] [0, 1, 2, 3, 4, 5, 6] ⟨[(1, kP 0 0), (4, kH 3), (6, kP 4 0)], [], [⟨.blk, 46, 1, 3, .c [.wh 1, .s (.u8 l0_1), .wh 2]⟩, ow 92 l0_0, ob 5 l0_2, nb 5 r10.1, ⟨.blk, 100, 1, 2, .c [.wh 5, .s (.v .nilIface)]⟩, ⟨.row, 103, 2, 1, .c [.s (.u8 0), .wh 6]⟩, ⟨.row, 5, 1, 0, .b []⟩]⟩ (aP g8 aN) ?_
       obtain ⟨r48, g9, h⟩ := bind_some' h
       refine Vgs hT (fM 1 (wOpen1_ok n r48) fN) [] [] [0, 1, 2, 3, 4, 7, 8, 9] ⟨[(1, kP 0 0), (4, kH 3), (6, kP 4 0)], [], [⟨.blk, 46, 1, 3, .c [.wh 1, .s (.u8 l0_1), .wh 2]⟩, ow 92 l0_0, ob 5 l0_2, nb 5 r10.1, ⟨.blk, 100, 1, 2, .c [.wh 5, .s (.er 38 .i64 none)]⟩, ⟨.row, 103, 2, 2, .c [.s (.u8 0), .wh 6, .s (.u8 48), .wh 7]⟩, nb 5 [], ⟨.row, 5, 1, 0, .b []⟩]⟩ (aP g9 aN) ?_
       obtain ⟨r51, g10, h⟩ := bind_some' h
       refine Vgs hT (fM 2 (wPut2_ok n r51) fN) [] [] [0, 1, 2, 4, 8, 9, 10] ⟨[(1, kP 0 0), (6, kP 3 0)], [], [⟨.blk, 46, 1, 3, .c [.wh 1, .s (.u8 l0_1), .wh 2]⟩, ow 92 l0_0, ob 5 l0_2, ⟨.blk, 100, 1, 2, .c [.wh 4, .s (.er 38 .i64 none)]⟩, ⟨.row, 103, 2, 2, .c [.s (.u8 0), .wh 5, .s (.u8 48), .wh 6]⟩, nb 5 [], nb 5 r51]⟩ (aP g10 aN) ?_
       obtain ⟨r57, g11, h⟩ := bind_some' h
       refine Vgs hT (fM 5 (wPut2_ok n r57) fN) [] [] [3, 7, 8, 9] ⟨[(6, kP 0 0)], [], [⟨.blk, 100, 1, 2, .c [.wh 1, .s (.er 38 .i64 none)]⟩, ⟨.row, 103, 2, 2, .c [.s (.u8 0), .wh 2, .s (.u8 48), .wh 3]⟩, nb 5 [], nb 5 r57]⟩ (aP g11 aN) ?_
       obtain ⟨r59, g12, h⟩ := bind_some' h
       refine Vgs hT (fM 1 (wClose2_ok n r59) fN) [] [] [0, 4, 5] ⟨[(6, kP 0 0)], [], [⟨.blk, 100, 1, 2, .c [.wh 1, .s (.er 38 .i64 none)]⟩, ⟨.row, 103, 2, 1, .c [.s (.u8 0), .wh 2]⟩, nb 5 r59]⟩ (aP g12 aN) ?_
       obtain ⟨r61, g13, h⟩ := bind_some' h
       refine Vgs hT (fM 1 (wBytes1_ok n r61) fN) [] [] [5] ⟨[(2, kH 0), (3, kE 38 none)], [], [nb 5 r59]⟩ (aP g13 aN) ?_
       refine Vc [] [0] (nAttr_R (r59, none)) (W_ret ?_)
       exact ⟨.inl rfl, by cases h; rfl⟩
  ·replace h := bif_f h g3
   rcases Bool.eq_false_or_eq_true (decide (((l0_2.length : Nat) : Int) < (1 : Int))) with g15 | g15
   ·replace h := bif_t h g15
    refine Vg hT fN [(2, false), (6, false), (18, true)] [] [0, 1, 2, 3] ⟨[(1, kP 0 0), (4, kH 3), (44, kB true)], [], [⟨.blk, 46, 1, 3, .c [.wh 1, .s (.u8 l0_1), .wh 2]⟩, ow 92 l0_0, ob 5 l0_2, nb 5 r10.1]⟩ (aP g2 (aP g3 (aP g15 aN))) ?_
    refine Vi (true) (fun _ => ?_) (fun hb => by cases hb)
    refine Vrs hT [] ⟨[(2, .c (.nils)), (3, kE 38 (some 1))], [], []⟩ ?_
    refine Vc [.nil 2 5 1 (.b [])] [0] (nAttr_R ([], (some 1))) (W_ret ?_)
    exact ⟨.inl rfl, by cases h; rfl⟩
   ·replace h := bif_f h g15
    rcases Bool.eq_false_or_eq_true (decide ((64 : Int) < ((l0_2.length : Nat) : Int))) with g16 | g16
    ·replace h := bif_t h g16
     refine Vg hT fN [(2, false), (6, false), (18, false), (24, true)] [] [0, 1, 2, 3] ⟨[(1, kP 0 0), (4, kH 3), (44, kB true)], [], [⟨.blk, 46, 1, 3, .c [.wh 1, .s (.u8 l0_1), .wh 2]⟩, ow 92 l0_0, ob 5 l0_2, nb 5 r10.1]⟩ (aP g2 (aP g3 (aP g15 (aP g16 aN)))) ?_
     refine Vi (true) (fun _ => ?_) (fun hb => by cases hb)
     refine Vrs hT [] ⟨[(2, .c (.nils)), (3, kE 38 (some 1))], [], []⟩ ?_
     refine Vc [.nil 2 5 1 (.b [])] [0] (nAttr_R ([], (some 1))) (W_ret ?_)
     exact ⟨.inl rfl, by cases h; rfl⟩
    ·replace h := bif_f h g16
     obtain ⟨r42, g17, h⟩ := bind_some' h
     refine Vg hT (fT 29 (pText_ok n r42) fN) [(2, false), (6, false), (18, false), (24, false)] [] [0, 1, 2, 3] ⟨[(1, kP 0 0), (4, kH 3), (44, kB (!((r42).isNone)))], [], [⟨.blk, 46, 1, 3, .c [.wh 1, .s (.u8 l0_1), .wh 2]⟩, ow 92 l0_0, ob 5 l0_2, nb 5 r10.1]⟩ (aP g2 (aP g3 (aP g15 (aP g16 (aP g17 aN))))) ?_
     refine Vi ((!((r42).isNone))) (fun g24 => ?_) (fun g24 => ?_)
     ·replace h := bif_t h g24
      refine Vrs hT [] ⟨[(2, .c (.nils)), (3, kE 38 (some 1))], [], []⟩ ?_
      refine Vc [.nil 2 5 1 (.b [])] [0] (nAttr_R ([], (some 1))) (W_ret ?_)
      exact ⟨.inl rfl, by cases h; rfl⟩
     ·replace h := bif_f h g24
      refine W_skip ?_
      obtain ⟨r46, g18, h⟩ := bind_some' h
      refine Vgs hT (fT 0 (wNew_ok n r46) fN) [] [] [0, 1, 2, 3, 4, 5, 6] ⟨[(1, kP 0 0), (4, kH 3), (6, kP 4 0)], [], [⟨.blk, 46, 1, 3, .c [.wh 1, .s (.u8 l0_1), .wh 2]⟩, ow 92 l0_0, ob 5 l0_2, nb 5 r10.1, ⟨.blk, 100, 1, 2, .c [.wh 5, .s (.v .nilIface)]⟩, ⟨.row, 103, 2, 1, .c [.s (.u8 0), .wh 6]⟩, ⟨.row, 5, 1, 0, .b []⟩]⟩ (aP g18 aN) ?_
      obtain ⟨r48, g19, h⟩ := bind_some' h
      refine Vgs hT (fM 1 (wOpen1_ok n r48) fN) [] [] [0, 1, 2, 3, 4, 7, 8, 9] ⟨[(1, kP 0 0), (4, kH 3), (6, kP 4 0)], [], [⟨.blk, 46, 1, 3, .c [.wh 1, .s (.u8 l0_1), .wh 2]⟩, ow 92 l0_0, ob 5 l0_2, nb 5 r10.1, ⟨.blk, 100, 1, 2, .c [.wh 5, .s (.er 38 .i64 none)]⟩, ⟨.row, 103, 2, 2, .c [.s (.u8 0), .wh 6, .s (.u8 48), .wh 7]⟩, nb 5 [], ⟨.row, 5, 1, 0, .b []⟩]⟩ (aP g19 aN) ?_
      obtain ⟨r51, g20, h⟩ := bind_some' h
      refine Vgs hT (fM 2 (wPut2_ok n r51) fN) [] [] [0, 1, 2, 4, 8, 9, 10] ⟨[(1, kP 0 0), (6, kP 3 0)], [], [⟨.blk, 46, 1, 3, .c [.wh 1, .s (.u8 l0_1), .wh 2]⟩, ow 92 l0_0, ob 5 l0_2, ⟨.blk, 100, 1, 2, .c [.wh 4, .s (.er 38 .i64 none)]⟩, ⟨.row, 103, 2, 2, .c [.s (.u8 0), .wh 5, .s (.u8 48), .wh 6]⟩, nb 5 [], nb 5 r51]⟩ (aP g20 aN) ?_
      obtain ⟨r57, g21, h⟩ := bind_some' h
      refine Vgs hT (fM 5 (wPut2_ok n r57) fN) [] [] [3, 7, 8, 9] ⟨[(6, kP 0 0)], [], [⟨.blk, 100, 1, 2, .c [.wh 1, .s (.er 38 .i64 none)]⟩, ⟨.row, 103, 2, 2, .c [.s (.u8 0), .wh 2, .s (.u8 48), .wh 3]⟩, nb 5 [], nb 5 r57]⟩ (aP g21 aN) ?_
      obtain ⟨r59, g22, h⟩ := bind_some' h
      refine Vgs hT (fM 1 (wClose2_ok n r59) fN) [] [] [0, 4, 5] ⟨[(6, kP 0 0)], [], [⟨.blk, 100, 1, 2, .c [.wh 1, .s (.er 38 .i64 none)]⟩, ⟨.row, 103, 2, 1, .c [.s (.u8 0), .wh 2]⟩, nb 5 r59]⟩ (aP g22 aN) ?_
      obtain ⟨r61, g23, h⟩ := bind_some' h
      refine Vgs hT (fM 1 (wBytes1_ok n r61) fN) [] [] [5] ⟨[(2, kH 0), (3, kE 38 none)], [], [nb 5 r59]⟩ (aP g23 aN) ?_
      refine Vc [] [0] (nAttr_R (r59, none)) (W_ret ?_)
      exact ⟨.inl rfl, by cases h; rfl⟩
def nWrite_l2_E (a0 : List (List (List UInt32 × (UInt8 × List UInt8)))) (l4_1 : List UInt8) (i23_1 : Int) (l7_5 : List UInt8) (l8_5 : List UInt8) (i38_5 : Int) : S := ⟨[(4, kH 0), (7, kH 1), (8, kH 2), (21, kH 3), (22, kI ((a0.length : Nat) : Int)), (23, kI i23_1), (36, .c (.dv 3 [(i23_1.toNat, 0)])), (37, kI (((a0.getD i23_1.toNat []).length : Nat) : Int)), (38, kI i38_5)], [], [nb 5 l4_1, nb 5 l7_5, nb 5 l8_5, ⟨(.dp false), 47, 1, a0.length, .d (.sl 46 (.pr (.wo 92) (.pr .u8 (.by 5)))) a0⟩]⟩
abbrev nWrite_l2_P (n : Nat) (a0 : List (List (List UInt32 × (UInt8 × List UInt8)))) (l4_1 : List UInt8) (i23_1 : Int) (k_l1 : (List UInt8) → Int → Option (List UInt8 × Option Int)) (r : List UInt8 × Option Int) (fu : Nat) : S → Prop := fun s => ∃ (l7_5 : List UInt8), ∃ (l8_5 : List UInt8), ∃ (i38_5 : Int), s = nWrite_l2_E a0 l4_1 i23_1 l7_5 l8_5 i38_5 ∧ nWrite_l2 n a0 l4_1 i23_1 k_l1 fu l7_5 l8_5 i38_5 = some r
def nWrite_l1_E (a0 : List (List (List UInt32 × (UInt8 × List UInt8)))) (l4_1 : List UInt8) (i23_1 : Int) : S := ⟨[(4, kH 0), (21, kH 1), (22, kI ((a0.length : Nat) : Int)), (23, kI i23_1)], [], [nb 5 l4_1, ⟨(.dp false), 47, 1, a0.length, .d (.sl 46 (.pr (.wo 92) (.pr .u8 (.by 5)))) a0⟩]⟩
abbrev nWrite_l1_P (n : Nat) (a0 : List (List (List UInt32 × (UInt8 × List UInt8)))) (r : List UInt8 × Option Int) (fu : Nat) : S → Prop := fun s => ∃ (l4_1 : List UInt8), ∃ (i23_1 : Int), s = nWrite_l1_E a0 l4_1 i23_1 ∧ nWrite_l1 n a0 fu l4_1 i23_1 = some r
def nWrite_R (r : List UInt8 × Option Int) : S := ⟨[(2, kH 0), (3, kE 38 r.2)], [], [nb 5 r.1]⟩
def nWrite_ct (n : Nat) (r : List UInt8 × Option Int) : Ct := ctc (rD 47 (.sl 46 (.pr (.wo 92) (.pr .u8 (.by 5))))).rd fun _ l0 => ct0 fun H => ([nWrite n l0 = some r], shA H.length (.t [.c (.wh 0), .c (.s (.er 38 .i64 r.2))]), shH H.length [nb 5 r.1])
theorem nWrite_ok (n : Nat) (r : List UInt8 × Option Int) : FnOk Try.prog Tr 19 (nWrite_ct n r) := by
 refine fnok Try.func19 ?_
 refine HO_c (rD 47 (.sl 46 (.pr (.wo 92) (.pr .u8 (.by 5))))) fun (l0 : List (List (List UInt32 × (UInt8 × List UInt8)))) _ => HO_0 tabO_nma (nWrite_R r) [.tmp 2, .tmp 3] [0] 93 Try.func19 fun w hG h => ?_
 unfold nWrite at h
 have hT := tabO_nma
 refine Vrs hT [0] ⟨[(0, kH 0)], [], [⟨(.dp false), 47, 1, l0.length, .d (.sl 46 (.pr (.wo 92) (.pr .u8 (.by 5)))) l0⟩]⟩ ?_
 refine W_seq ?_
 refine Vrs hT [0] ⟨[(0, kH 0), (19, kB (decide ((8 : Int) < ((l0.length : Nat) : Int))))], [], [⟨(.dp false), 47, 1, l0.length, .d (.sl 46 (.pr (.wo 92) (.pr .u8 (.by 5)))) l0⟩]⟩ ?_
 refine Vi ((decide ((8 : Int) < ((l0.length : Nat) : Int)))) (fun g25 => ?_) (fun g25 => ?_)
 ·replace h := bif_t h g25
  refine Vrs hT [] ⟨[(2, .c (.nils)), (3, kE 38 (some 1))], [], []⟩ ?_
  refine Vc [.nil 2 5 1 (.b [])] [0] (nWrite_R ([], (some 1))) (W_ret ?_)
  exact ⟨.inl rfl, by cases h; rfl⟩
 ·replace h := bif_f h g25
  refine W_skip ?_
  refine Vrs hT [0] ⟨[(0, kH 0), (4, .c (.nils))], [], [⟨(.dp false), 47, 1, l0.length, .d (.sl 46 (.pr (.wo 92) (.pr .u8 (.by 5)))) l0⟩]⟩ ?_
  refine W_seq ?_
  refine Vrs hT [0] ⟨[(4, .c (.nils)), (21, kH 0), (22, kI ((l0.length : Nat) : Int)), (23, kI 0)], [], [⟨(.dp false), 47, 1, l0.length, .d (.sl 46 (.pr (.wo 92) (.pr .u8 (.by 5)))) l0⟩]⟩ ?_
  refine W_block ?_
  refine Vc [.nil 4 5 1 (.b [])] [1, 0] (nWrite_l1_E l0 [] 0) (W_lp ((nWrite_l1_P n l0 r)) n ⟨_, _, rfl, h⟩ ?_)
  rintro fu_l1 _ ⟨l4_1, i23_1, rfl, h⟩
  cases fu_l1 with
  | zero => cases h
  | succ fu_l1 =>
   refine ⟨fu_l1, rfl, ?_⟩
   rw [nWrite_l1] at h
   refine Vrs hT [0, 1] ⟨[(4, kH 0), (21, kH 1), (22, kI ((l0.length : Nat) : Int)), (23, kI i23_1), (24, kB (decide (i23_1 < ((l0.length : Nat) : Int))))], [], [nb 5 l4_1, ⟨(.dp false), 47, 1, l0.length, .d (.sl 46 (.pr (.wo 92) (.pr .u8 (.by 5)))) l0⟩]⟩ ?_
   refine W_seq ?_
   refine Vi ((decide (i23_1 < ((l0.length : Nat) : Int)))) (fun g24 => ?_) (fun g24 => ?_)
   ·replace h := bif_t h g24
    refine W_skip ?_
    refine W_seq ?_
    refine W_block ?_
    obtain ⟨g1, g2, h⟩ := gd2 h
    refine Vgs hT fN [] [] [0, 1] ⟨[(4, kH 0), (6, .c (.dv 1 [(i23_1.toNat, 0)])), (21, kH 1), (22, kI ((l0.length : Nat) : Int)), (23, kI i23_1)], [], [nb 5 l4_1, ⟨(.dp false), 47, 1, l0.length, .d (.sl 46 (.pr (.wo 92) (.pr .u8 (.by 5)))) l0⟩]⟩ (aP g1 (aP g2 aN)) ?_
    refine W_seq ?_
    refine W_seq ?_
    rcases Bool.eq_false_or_eq_true (decide ((((l0.getD i23_1.toNat []).length : Nat) : Int) < (1 : Int))) with g3 | g3
    ·replace h := bif_t h g3
     refine Vg hT fN [(3, true)] [] [0, 1] ⟨[(4, kH 0), (6, .c (.dv 1 [(i23_1.toNat, 0)])), (21, kH 1), (22, kI ((l0.length : Nat) : Int)), (23, kI i23_1), (34, kB true)], [], [nb 5 l4_1, ⟨(.dp false), 47, 1, l0.length, .d (.sl 46 (.pr (.wo 92) (.pr .u8 (.by 5)))) l0⟩]⟩ (aP g3 aN) ?_
     refine Vi (true) (fun _ => ?_) (fun hb => by cases hb)
     refine Vrs hT [] ⟨[(2, .c (.nils)), (3, kE 38 (some 1))], [], []⟩ ?_
     refine Vc [.nil 2 5 1 (.b [])] [0] (nWrite_R ([], (some 1))) (W_ret ?_)
     exact ⟨.inl rfl, by cases h; rfl⟩
    ·replace h := bif_f h g3
     refine Vg hT fN [(3, false)] [] [0, 1] ⟨[(4, kH 0), (6, .c (.dv 1 [(i23_1.toNat, 0)])), (21, kH 1), (22, kI ((l0.length : Nat) : Int)), (23, kI i23_1), (34, kB (decide ((4 : Int) < (((l0.getD i23_1.toNat []).length : Nat) : Int))))], [], [nb 5 l4_1, ⟨(.dp false), 47, 1, l0.length, .d (.sl 46 (.pr (.wo 92) (.pr .u8 (.by 5)))) l0⟩]⟩ (aP g3 aN) ?_
     refine Vi ((decide ((4 : Int) < (((l0.getD i23_1.toNat []).length : Nat) : Int)))) (fun g20 => ?_) (fun g20 => ?_)
     ·replace h := bif_t h g20
      refine Vrs hT [] ⟨[(2, .c (.nils)), (3, kE 38 (some 1))], [], []⟩ ?_
      refine Vc [.nil 2 5 1 (.b [])] [0] (nWrite_R ([], (some 1))) (W_ret ?_)
      exact ⟨.inl rfl, by cases h; rfl⟩
     ·replace h := bif_f h g20
      refine W_skip ?_
      refine Vrs hT [0, 1] ⟨[(4, kH 0), (6, .c (.dv 1 [(i23_1.toNat, 0)])), (7, .c (.nils)), (8, .c (.nils)), (21, kH 1), (22, kI ((l0.length : Nat) : Int)), (23, kI i23_1)], [], [nb 5 l4_1, ⟨(.dp false), 47, 1, l0.length, .d (.sl 46 (.pr (.wo 92) (.pr .u8 (.by 5)))) l0⟩]⟩ ?_
      refine W_seq ?_
      refine Vrs hT [0, 1] ⟨[(4, kH 0), (7, .c (.nils)), (8, .c (.nils)), (21, kH 1), (22, kI ((l0.length : Nat) : Int)), (23, kI i23_1), (36, .c (.dv 1 [(i23_1.toNat, 0)])), (37, kI (((l0.getD i23_1.toNat []).length : Nat) : Int)), (38, kI 0)], [], [nb 5 l4_1, ⟨(.dp false), 47, 1, l0.length, .d (.sl 46 (.pr (.wo 92) (.pr .u8 (.by 5)))) l0⟩]⟩ ?_
      refine W_block ?_
      refine Vc [.nil 7 5 1 (.b []), .nil 8 5 1 (.b [])] [0, 2, 3, 1] (nWrite_l2_E l0 l4_1 i23_1 [] [] 0) (W_lp ((nWrite_l2_P n l0 l4_1 i23_1 (nWrite_l1 n l0 fu_l1) r)) n ⟨_, _, _, rfl, h⟩ ?_)
      rintro fu_l2 _ ⟨l7_5, l8_5, i38_5, rfl, h⟩
      cases fu_l2 with
      | zero => cases h
      | succ fu_l2 =>
       refine ⟨fu_l2, rfl, ?_⟩
       rw [nWrite_l2] at h
       refine Vrs hT [0, 1, 2, 3] ⟨[(4, kH 0), (7, kH 1), (8, kH 2), (21, kH 3), (22, kI ((l0.length : Nat) : Int)), (23, kI i23_1), (36, .c (.dv 3 [(i23_1.toNat, 0)])), (37, kI (((l0.getD i23_1.toNat []).length : Nat) : Int)), (38, kI i38_5), (39, kB (decide (i38_5 < (((l0.getD i23_1.toNat []).length : Nat) : Int))))], [], [nb 5 l4_1, nb 5 l7_5, nb 5 l8_5, ⟨(.dp false), 47, 1, l0.length, .d (.sl 46 (.pr (.wo 92) (.pr .u8 (.by 5)))) l0⟩]⟩ ?_
       refine W_seq ?_
       refine Vi ((decide (i38_5 < (((l0.getD i23_1.toNat []).length : Nat) : Int)))) (fun g19 => ?_) (fun g19 => ?_)
       ·replace h := bif_t h g19
        refine W_skip ?_
        refine W_seq ?_
        refine W_block ?_
        obtain ⟨g4, g5, h⟩ := gd2 h
        refine Vgs hT fN [] [] [0, 1, 2, 4, 3] ⟨[(4, kH 0), (7, kH 1), (8, kH 2), (9, kI i38_5), (10, kP 3 0), (21, kH 4), (22, kI ((l0.length : Nat) : Int)), (23, kI i23_1), (36, .c (.dv 4 [(i23_1.toNat, 0)])), (37, kI (((l0.getD i23_1.toNat []).length : Nat) : Int)), (38, kI i38_5)], [], [nb 5 l4_1, nb 5 l7_5, nb 5 l8_5, ⟨.blk, 46, 1, 3, .c [.dv 4 [(i38_5.toNat, 0), (i23_1.toNat, 0)], .s (.u8 (((l0.getD i23_1.toNat []).getD i38_5.toNat ([], (0, []))).2.1)), .dv 4 [(i38_5.toNat, 2), (i23_1.toNat, 0)]]⟩, ⟨(.dp false), 47, 1, l0.length, .d (.sl 46 (.pr (.wo 92) (.pr .u8 (.by 5)))) l0⟩]⟩ (aP g4 (aP g5 aN)) ?_
        obtain ⟨r45_8, g6, h⟩ := bind_some' h
        refine Vgs hT (fT 1 (nAttr_ok n r45_8) fN) [] [] [0, 1, 2, 5, 4] ⟨[(4, kH 0), (7, kH 1), (8, kH 2), (9, kI i38_5), (11, kH 3), (12, kE 38 r45_8.2), (21, kH 4), (22, kI ((l0.length : Nat) : Int)), (23, kI i23_1), (36, .c (.dv 4 [(i23_1.toNat, 0)])), (37, kI (((l0.getD i23_1.toNat []).length : Nat) : Int)), (38, kI i38_5)], [], [nb 5 l4_1, nb 5 l7_5, nb 5 l8_5, nb 5 r45_8.1, ⟨(.dp false), 47, 1, l0.length, .d (.sl 46 (.pr (.wo 92) (.pr .u8 (.by 5)))) l0⟩]⟩ (aP g6 aN) ?_
        refine W_seq ?_
        refine W_seq ?_
        rcases Bool.eq_false_or_eq_true (!((r45_8.2).isNone)) with g7 | g7
        ·replace h := bif_t h g7
         refine Vg hT fN [(2, true)] [] [0, 1, 3, 4] ⟨[(4, kH 0), (7, kH 1), (11, kH 2), (21, kH 3), (22, kI ((l0.length : Nat) : Int)), (23, kI i23_1), (36, .c (.dv 3 [(i23_1.toNat, 0)])), (37, kI (((l0.getD i23_1.toNat []).length : Nat) : Int)), (38, kI i38_5), (59, kB true)], [], [nb 5 l4_1, nb 5 l7_5, nb 5 r45_8.1, ⟨(.dp false), 47, 1, l0.length, .d (.sl 46 (.pr (.wo 92) (.pr .u8 (.by 5)))) l0⟩]⟩ (aP g7 aN) ?_
         refine Vi (true) (fun _ => ?_) (fun hb => by cases hb)
         refine Vrs hT [] ⟨[(2, .c (.nils)), (3, kE 38 (some 1))], [], []⟩ ?_
         refine Vc [.nil 2 5 1 (.b [])] [0] (nWrite_R ([], (some 1))) (W_ret ?_)
         exact ⟨.inl rfl, by cases h; rfl⟩
        ·replace h := bif_f h g7
         rcases Bool.eq_false_or_eq_true (decide ((0 : Int) < i38_5)) with g8 | g8
         ·replace h := bif_t h g8
          refine Vg hT (fT 8 cmp_h fN) [(2, false), (5, true)] [] [0, 1, 3, 4] ⟨[(4, kH 0), (7, kH 1), (11, kH 2), (21, kH 3), (22, kI ((l0.length : Nat) : Int)), (23, kI i23_1), (36, .c (.dv 3 [(i23_1.toNat, 0)])), (37, kI (((l0.getD i23_1.toNat []).length : Nat) : Int)), (38, kI i38_5), (59, kB (decide ((0 : Int) ≤ (Lib.compareBytes l8_5 r45_8.1))))], [], [nb 5 l4_1, nb 5 l7_5, nb 5 r45_8.1, ⟨(.dp false), 47, 1, l0.length, .d (.sl 46 (.pr (.wo 92) (.pr .u8 (.by 5)))) l0⟩]⟩ (aP g7 (aP g8 aN)) ?_
          refine Vi ((decide ((0 : Int) ≤ (Lib.compareBytes l8_5 r45_8.1)))) (fun g11 => ?_) (fun g11 => ?_)
          ·replace h := bif_t h g11
           refine Vrs hT [] ⟨[(2, .c (.nils)), (3, kE 38 (some 1))], [], []⟩ ?_
           refine Vc [.nil 2 5 1 (.b [])] [0] (nWrite_R ([], (some 1))) (W_ret ?_)
           exact ⟨.inl rfl, by cases h; rfl⟩
          ·replace h := bif_f h g11
           refine W_skip ?_
           obtain ⟨g9, h⟩ := gd_some h
           refine Vg hT fN [] [] [0, 4, 2, 3] ⟨[(4, kH 0), (7, kH 1), (8, kH 2), (21, kH 3), (22, kI ((l0.length : Nat) : Int)), (23, kI i23_1), (36, .c (.dv 3 [(i23_1.toNat, 0)])), (37, kI (((l0.getD i23_1.toNat []).length : Nat) : Int)), (38, kI i38_5)], [], [nb 5 l4_1, nb 5 (l7_5 ++ r45_8.1), nb 5 r45_8.1, ⟨(.dp false), 47, 1, l0.length, .d (.sl 46 (.pr (.wo 92) (.pr .u8 (.by 5)))) l0⟩]⟩ (aP g9 aN) ?_
           obtain ⟨g10, h⟩ := gd_some h
           refine Vg hT fN [] [] [0, 1, 2, 3] (nWrite_l2_E l0 l4_1 i23_1 (l7_5 ++ r45_8.1) r45_8.1 (i38_5 + 1)) (aP g10 aN) ?_
           exact ⟨_, _, _, rfl, h⟩
         ·replace h := bif_f h g8
          refine Vg hT fN [(2, false), (5, false)] [] [0, 1, 3, 4] ⟨[(4, kH 0), (7, kH 1), (11, kH 2), (21, kH 3), (22, kI ((l0.length : Nat) : Int)), (23, kI i23_1), (36, .c (.dv 3 [(i23_1.toNat, 0)])), (37, kI (((l0.getD i23_1.toNat []).length : Nat) : Int)), (38, kI i38_5), (59, kB false)], [], [nb 5 l4_1, nb 5 l7_5, nb 5 r45_8.1, ⟨(.dp false), 47, 1, l0.length, .d (.sl 46 (.pr (.wo 92) (.pr .u8 (.by 5)))) l0⟩]⟩ (aP g7 (aP g8 aN)) ?_
          refine Vi (false) (fun hb => by cases hb) (fun _ => ?_)
          refine W_skip ?_
          obtain ⟨g12, h⟩ := gd_some h
          refine Vg hT fN [] [] [0, 4, 2, 3] ⟨[(4, kH 0), (7, kH 1), (8, kH 2), (21, kH 3), (22, kI ((l0.length : Nat) : Int)), (23, kI i23_1), (36, .c (.dv 3 [(i23_1.toNat, 0)])), (37, kI (((l0.getD i23_1.toNat []).length : Nat) : Int)), (38, kI i38_5)], [], [nb 5 l4_1, nb 5 (l7_5 ++ r45_8.1), nb 5 r45_8.1, ⟨(.dp false), 47, 1, l0.length, .d (.sl 46 (.pr (.wo 92) (.pr .u8 (.by 5)))) l0⟩]⟩ (aP g12 aN) ?_
          obtain ⟨g13, h⟩ := gd_some h
          refine Vg hT fN [] [] [0, 1, 2, 3] (nWrite_l2_E l0 l4_1 i23_1 (l7_5 ++ r45_8.1) r45_8.1 (i38_5 + 1)) (aP g13 aN) ?_
          exact ⟨_, _, _, rfl, h⟩
       ·replace h := bif_f h g19
        refine Vc [] [0, 1, 3] ⟨[(4, kH 0), (7, kH 1), (21, kH 2), (22, kI ((l0.length : Nat) : Int)), (23, kI i23_1)], [], [nb 5 l4_1, nb 5 l7_5, ⟨(.dp false), 47, 1, l0.length, .d (.sl 46 (.pr (.wo 92) (.pr .u8 (.by 5)))) l0⟩]⟩ (W_exit ?_)
        obtain ⟨r69_5, g14, h⟩ := bind_some' h
        refine Vgs hT (fT 2 (tHead_ok n r69_5) fN) [] [] [0, 1, 3, 2] ⟨[(4, kH 0), (7, kH 1), (13, kH 2), (14, kE 38 r69_5.2), (21, kH 3), (22, kI ((l0.length : Nat) : Int)), (23, kI i23_1)], [], [nb 5 l4_1, nb 5 l7_5, nb 5 r69_5.1, ⟨(.dp false), 47, 1, l0.length, .d (.sl 46 (.pr (.wo 92) (.pr .u8 (.by 5)))) l0⟩]⟩ (aP g14 aN) ?_
        refine W_seq ?_
        refine Vrs hT [0, 1, 2, 3] ⟨[(4, kH 0), (7, kH 1), (13, kH 2), (21, kH 3), (22, kI ((l0.length : Nat) : Int)), (23, kI i23_1), (73, kB (!((r69_5.2).isNone)))], [], [nb 5 l4_1, nb 5 l7_5, nb 5 r69_5.1, ⟨(.dp false), 47, 1, l0.length, .d (.sl 46 (.pr (.wo 92) (.pr .u8 (.by 5)))) l0⟩]⟩ ?_
        refine Vi ((!((r69_5.2).isNone))) (fun g18 => ?_) (fun g18 => ?_)
        ·replace h := bif_t h g18
         refine Vrs hT [] ⟨[(2, .c (.nils)), (3, kE 38 (some 1))], [], []⟩ ?_
         refine Vc [.nil 2 5 1 (.b [])] [0] (nWrite_R ([], (some 1))) (W_ret ?_)
         exact ⟨.inl rfl, by cases h; rfl⟩
        ·replace h := bif_f h g18
         refine W_skip ?_
         obtain ⟨g15, g16, h⟩ := gd2 h
         refine Vg hT fN [] [] [5, 3] ⟨[(4, kH 0), (21, kH 1), (22, kI ((l0.length : Nat) : Int)), (23, kI i23_1)], [], [nb 5 ((l4_1 ++ r69_5.1) ++ l7_5), ⟨(.dp false), 47, 1, l0.length, .d (.sl 46 (.pr (.wo 92) (.pr .u8 (.by 5)))) l0⟩]⟩ (aP g15 (aP g16 aN)) ?_
         obtain ⟨g17, h⟩ := gd_some h
         refine Vg hT fN [] [] [0, 1] (nWrite_l1_E l0 ((l4_1 ++ r69_5.1) ++ l7_5) (i23_1 + 1)) (aP g17 aN) ?_
         exact ⟨_, _, rfl, h⟩
   ·replace h := bif_f h g24
    refine Vc [] [0] ⟨[(4, kH 0)], [], [nb 5 l4_1]⟩ (W_exit ?_)
    obtain ⟨r84_1, g21, h⟩ := bind_some' h
    refine Vgs hT (fT 2 (tHead_ok n r84_1) fN) [] [] [0, 1] ⟨[(4, kH 0), (15, kH 1), (16, kE 38 r84_1.2)], [], [nb 5 l4_1, nb 5 r84_1.1]⟩ (aP g21 aN) ?_
    refine W_seq ?_
    refine Vrs hT [0, 1] ⟨[(4, kH 0), (15, kH 1), (88, kB (!((r84_1.2).isNone)))], [], [nb 5 l4_1, nb 5 r84_1.1]⟩ ?_
    refine Vi ((!((r84_1.2).isNone))) (fun g23 => ?_) (fun g23 => ?_)
    ·replace h := bif_t h g23
     refine Vrs hT [] ⟨[(2, .c (.nils)), (3, kE 38 (some 1))], [], []⟩ ?_
     refine Vc [.nil 2 5 1 (.b [])] [0] (nWrite_R ([], (some 1))) (W_ret ?_)
     exact ⟨.inl rfl, by cases h; rfl⟩
    ·replace h := bif_f h g23
     refine W_skip ?_
     obtain ⟨g22, h⟩ := gd_some h
     refine Vgs hT fN [] [] [2] ⟨[(2, kH 0), (3, .c (.s (.v .nilIface)))], [], [nb 5 (r84_1.1 ++ l4_1)]⟩ (aP g22 aN) ?_
     refine Vc [.er 3 38 .i64] [0] (nWrite_R ((r84_1.1 ++ l4_1), none)) (W_ret ?_)
     exact ⟨.inl rfl, by cases h; rfl⟩
def nCheck_R (r : Option Int) : S := ⟨[(2, kE 38 r)], [], []⟩
def nCheck_ct (n : Nat) (r : Option Int) : Ct := ctc (rD 47 (.sl 46 (.pr (.wo 92) (.pr .u8 (.by 5))))).rd fun _ l0 => ct0 fun H => ([nCheck n l0 = some r], shA H.length (kE 38 r), shH H.length [])
theorem nCheck_ok (n : Nat) (r : Option Int) : FnOk Try.prog Tr 18 (nCheck_ct n r) := by
 refine fnok Try.func18 ?_
 refine HO_c (rD 47 (.sl 46 (.pr (.wo 92) (.pr .u8 (.by 5))))) fun (l0 : List (List (List UInt32 × (UInt8 × List UInt8)))) _ => HO_0 tabO_nma (nCheck_R r) [.tmp 2] [] 11 Try.func18 fun w hG h => ?_
 unfold nCheck at h
 have hT := tabO_nma
 refine Vrs hT [0] ⟨[(0, kH 0)], [], [⟨(.dp false), 47, 1, l0.length, .d (.sl 46 (.pr (.wo 92) (.pr .u8 (.by 5)))) l0⟩]⟩ ?_
 obtain ⟨r7, g1, h⟩ := bind_some' h
 refine Vgs hT (fT 1 (nWrite_ok n r7) fN) [] [] [] ⟨[(4, kE 38 r7.2)], [], []⟩ (aP g1 aN) ?_
 refine Vrs hT [] ⟨[(2, kE 38 r7.2)], [], []⟩ ?_
 refine Vc [] [] (nCheck_R r7.2) (W_ret ?_)
 exact ⟨.inl rfl, by cases h; rfl⟩
end Go.Proofs.Ytobfglafchoipaa
end
section
namespace Go.Sx
open Go Go.RowKit Go.Ch Go.Proofs.Ytobfglafchoipaa
theorem mk_all : ∀ i : Fin 256, ((UInt8.ofNat i.1 &&& 31) != 31) = ((UInt8.ofNat i.1 % 32) != 31) := by decide +kernel
theorem mk_eq (x : UInt8) : ((x &&& 31) != 31) = ((x % 32) != 31) := by simpa using mk_all ⟨x.toNat, x.toNat_lt⟩
theorem tvalid_is (n : Nat) (x : UInt8) : tvalid n x = some (x % 32 != 31) := by unfold tvalid; rw [mk_eq]
theorem ofInt_mod (x : Int) : UInt8.ofInt (x % 256) = UInt8.ofInt x := by
 unfold UInt8.ofInt; congr 2; omega
def hdF (m : UInt8) (k : Int) : List UInt8 := bif decide (k < 128) then [m, UInt8.ofInt k] else bif decide (k < 256) then [m, 129, UInt8.ofInt k] else [m, 130, UInt8.ofInt (k / 256), UInt8.ofInt k]
theorem hdF_len (m : UInt8) (k : Int) : (hdF m k).length ≤ 4 := by
 unfold hdF; cases decide (k < 128) with
 | true => simp
 | false => cases decide (k < 256) with
  | true => simp
  | false => simp
theorem tHead_is (n : Nat) {m : UInt8} {k : Int} (hm : (m % 32 != 31) = true) (h0 : 0 ≤ k) (h1 : k ≤ 65535) : tHead n m k = some (hdF m k, none) := by
 unfold tHead hdF
 rw [tvalid_is, Option.bind_some, ite_f (by rw [hm]; rfl), ite_f (decide_eq_false (by omega)), ite_f (decide_eq_false (by omega))]
 cases decide (k < 128) with
 | true => rfl
 | false => cases decide (k < 256) with
  | true => rfl
  | false => simp only [cond_false]; rw [gd_pos (by decide), gd_pos (by decide)]; rfl
end Go.Sx
end
section
namespace Go.Sx
open Go Go.RowKit Go.Ch Go.Proofs.Ytobfglafchoipaa
theorem bodyOf_len {l : List UInt32} (h : oidOk l = true) : (bodyOf l).length ≤ 102 := by
 have := oidOk_len h
 have h1 := grp_len (40 * l.getD 0 0 + l.getD 1 0)
 have h2 := grps_len (l.drop 2)
 unfold bodyOf
 rw [List.length_append]; rw [List.length_drop] at h2; omega
def mkOk (m : UInt8) : Bool := m == 12 || m == 19
theorem mkOk_or {m : UInt8} (h : mkOk m = true) : m = 12 ∨ m = 19 := by unfold mkOk at h; simpa using h
def atOk (x : AttrT) : Bool := mkOk x.2.1 && (decide (1 ≤ x.2.2.length) && (decide (x.2.2.length ≤ 64) && (oidOk x.1 && txOk x.2.1 x.2.2)))
def elF (m : UInt8) (b : List UInt8) : List UInt8 := hdF m (b.length : Int) ++ b
theorem elF_len (m : UInt8) (b : List UInt8) : (elF m b).length ≤ 4 + b.length := by
 have := hdF_len m (b.length : Int)
 unfold elF; rw [List.length_append]; omega
def atF (x : AttrT) : List UInt8 := elF 48 (elF 6 (bodyOf x.1) ++ elF x.2.1 x.2.2)
theorem atOk_parts {x : AttrT} (h : atOk x = true) : mkOk x.2.1 = true ∧ 1 ≤ x.2.2.length ∧ x.2.2.length ≤ 64 ∧ oidOk x.1 = true ∧ txOk x.2.1 x.2.2 = true := by
 unfold atOk at h; simpa using h
theorem atF_len {x : AttrT} (h : atOk x = true) : (atF x).length ≤ 200 := by
 obtain ⟨_, _, h3, h4, _⟩ := atOk_parts h
 have e1 := elF_len 48 (elF 6 (bodyOf x.1) ++ elF x.2.1 x.2.2)
 have e2 := elF_len 6 (bodyOf x.1)
 have e3 := elF_len x.2.1 x.2.2
 have e4 := bodyOf_len h4
 unfold atF; rw [List.length_append] at e1; omega
theorem tisW_12 (n : Nat) {m : UInt8} (hm : m = 6 ∨ m = 12 ∨ m = 19) : tisW n m = some false ∧ (m % 32 != 31) = true := by rcases hm with rfl | rfl | rfl <;> exact ⟨rfl, by decide⟩
theorem wPut2_is {n : Nat} {m : UInt8} (hm : m = 6 ∨ m = 12 ∨ m = 19) {a b : List UInt8} (ha : a.length ≤ 100000) (hb : b.length ≤ 60000) : wPut2 n 0 [] 48 a m b = some (a ++ elF m b) := by
 have := hdF_len m (b.length : Int)
 unfold wPut2 wadd2
 rw [tvalid_is, Option.bind_some, (tisW_12 n hm).2, ite_f (by rfl), (tisW_12 n hm).1, Option.bind_some, ite_f (by rfl), tHead_is n (tisW_12 n hm).2 (by omega) (by omega), Option.bind_some, ite_f (by rfl)]
 rw [gd_pos (by decide), gd_pos (by decide), gd_pos (by decide), gd_pos (by decide), gd_pos (by unfold rmB; simp; omega), gd_pos (by unfold rmB; simp; omega), gd_pos (by decide), Option.bind_some]
 unfold elF; rw [List.append_assoc]
theorem wClose2_is {n : Nat} {b : List UInt8} (hb : b.length ≤ 60000) : wClose2 n 0 [] 48 b = some (elF 48 b) := by
 have := hdF_len 48 (b.length : Int)
 unfold wClose2 wadd1 elF
 rw [gd_pos (by decide), gd_pos (by decide), gd_pos (by decide), gd_pos (by decide), gd_pos (by decide), gd_pos (by decide), gd_pos (by decide), tHead_is n (by decide) (by omega) (by omega), Option.bind_some, ite_f (by rfl)]
 rw [gd_pos (by decide), gd_pos (by decide), gd_pos (by decide), gd_pos (by decide), gd_pos (by unfold rmB; simp; omega), gd_pos (by unfold rmB; simp; omega), gd_pos (by decide), Option.bind_some, List.nil_append]
theorem wAttr {n : Nat} {o t : List UInt8} {m : UInt8} (hm : m = 12 ∨ m = 19) (ho : o.length ≤ 1000) (ht : t.length ≤ 1000) :
  (wNew n).bind (fun _ => (wOpen1 n 0 [] 48).bind fun _ => (wPut2 n 0 [] 48 [] 6 o).bind fun r51 => (wPut2 n 0 [] 48 r51 m t).bind fun r57 => (wClose2 n 0 [] 48 r57).bind fun r59 => (wBytes1 n 0 r59).bind fun _ => some (r59, (none : Option Int))) = some (elF 48 (elF 6 o ++ elF m t), none) := by
 have h1 := elF_len 6 o
 have h2 := elF_len m t
 have h3 := elF_len 48 (elF 6 o ++ elF m t)
 rw [List.length_append] at h3
 have ew : wOpen1 n 0 [] 48 = some () := by
  unfold wOpen1
  rw [tvalid_is, Option.bind_some, ite_f (by decide), show tisW n 48 = some true from rfl, Option.bind_some, ite_f (by rfl), gd_pos (by unfold rmB; omega)]
 have eb : wBytes1 n 0 (elF 48 (elF 6 o ++ elF m t)) = some () := by
  unfold wBytes1; rw [gd_pos (by decide), gd_pos (by decide), gd_pos (by decide), gd_pos (by omega)]
 rw [show wNew n = some () from rfl, Option.bind_some, ew, Option.bind_some, wPut2_is (.inl rfl) (by simp) (by omega), Option.bind_some, List.nil_append, wPut2_is (.inr hm) (by omega) (by omega), Option.bind_some, wClose2_is (by simp; omega), Option.bind_some, eb, Option.bind_some]
theorem nAttr_is {n : Nat} (hn : 3000 ≤ n) {x : AttrT} : nAttr n x.1 x.2.1 x.2.2 = some (if atOk x = true then (atF x, none) else ([], some 1)) := by
 obtain ⟨ty, mk, tx⟩ := x
 simp only
 have rest : oidOk ty = true → mkOk mk = true → (bif (decide (((tx.length : Nat) : Int) < (1 : Int))) then some (([], some 1) : List UInt8 × Option Int) else
    bif (decide ((64 : Int) < ((tx.length : Nat) : Int))) then some ([], (some 1)) else
     (pText n mk tx).bind fun r42 =>
     bif (!((r42).isNone)) then some ([], (some 1)) else
      (wNew n).bind fun _ => (wOpen1 n 0 [] 48).bind fun _ => (wPut2 n 0 [] 48 [] 6 (bodyOf ty)).bind fun r51 => (wPut2 n 0 [] 48 r51 mk tx).bind fun r57 => (wClose2 n 0 [] 48 r57).bind fun r59 => (wBytes1 n 0 r59).bind fun _ => some (r59, none)) = some (if atOk (ty, mk, tx) = true then (atF (ty, mk, tx), none) else ([], some 1)) := by
  intro ho hm
  have e : atOk (ty, mk, tx) = (decide (1 ≤ tx.length) && (decide (tx.length ≤ 64) && txOk mk tx)) := by unfold atOk; simp only [ho, hm, Bool.true_and]
  rw [e]
  by_cases h1 : tx.length < 1
  ·rw [ite_t (decide_eq_true (by omega)), decide_eq_false (show ¬ 1 ≤ tx.length by omega)]; rfl
  ·rw [ite_f (decide_eq_false (by omega)), decide_eq_true (show 1 ≤ tx.length by omega), Bool.true_and]
   by_cases h2 : 64 < tx.length
   ·rw [ite_t (decide_eq_true (by omega)), decide_eq_false (show ¬ tx.length ≤ 64 by omega)]; rfl
   ·rw [ite_f (decide_eq_false (by omega)), decide_eq_true (show tx.length ≤ 64 by omega), Bool.true_and, pText_is (mkOk_or hm) tx (by omega), Option.bind_some]
    cases txOk mk tx with
    | false => rfl
    | true =>
     have := bodyOf_len ho
     exact wAttr (mkOk_or hm) (by omega) (by omega)
 unfold nAttr
 rw [pOid_is (by omega), Option.bind_some]
 cases ho : oidOk ty with
 | false =>
  have e : atOk (ty, mk, tx) = false := by unfold atOk; simp [ho]
  rw [e]; rfl
 | true =>
  rw [if_pos rfl]
  rw [show (!((((bodyOf ty, none) : List UInt8 × Option Int).2).isNone)) = false from rfl]
  simp only [cond_false]
  by_cases hc : mk = 12
  ·rw [ite_f (by rw [hc]; decide)]
   exact rest ho (by rw [hc]; rfl)
  ·rw [ite_t (by simpa using hc)]
   by_cases hd : mk = 19
   ·rw [ite_f (by rw [hd]; decide)]
    exact rest ho (by rw [hd]; rfl)
   ·rw [ite_t (by simpa using hd)]
    have e : atOk (ty, mk, tx) = false := by unfold atOk mkOk; simp [hc, hd]
    rw [e]; rfl
theorem cmp_less : ∀ a b : List UInt8, decide ((0 : Int) ≤ Lib.compareBytes a b) = !Op.bytesLess a b
 | [], [] => rfl
 | [], _ :: _ => by simp [Lib.compareBytes, Op.bytesLess]
 | _ :: _, [] => by simp [Lib.compareBytes, Op.bytesLess]
 | x :: a, y :: b => by
  have ih := cmp_less a b
  unfold Lib.compareBytes Op.bytesLess
  by_cases h : x < y
  ·simp [h]
  ·by_cases h2 : y < x
   ·have : x ≠ y := fun e => UInt8.lt_irrefl y (by rw [e] at h2; exact h2)
    simp [h, h2, this]
   ·have : x = y := by
     have h3 := UInt8.not_lt.1 h
     have h4 := UInt8.not_lt.1 h2
     exact UInt8.le_antisymm h4 h3
    simp [h, h2, this, ih]
def stpF : List AttrT → Bool → List UInt8 → Option (List UInt8)
 | [], _, _ => some []
 | x :: t, fst, last => if (atOk x && (fst || Op.bytesLess last (atF x))) = true then (stpF t false (atF x)).map (atF x ++ ·) else none
theorem stpF_len : ∀ (l : List AttrT) (f : Bool) (last y : List UInt8), stpF l f last = some y → y.length ≤ 200 * l.length
 | [], _, _, y, h => by injection h with h; rw [← h]; simp
 | x :: t, f, last, y, h => by
  rw [stpF] at h
  split at h
  ·rename_i hc
   obtain ⟨z, hz, rfl⟩ := Option.map_eq_some_iff.1 h
   have h1 := stpF_len t false (atF x) z hz
   have h2 := atF_len (x := x) (by simp at hc; exact hc.1)
   rw [List.length_append, List.length_cons]; omega
  ·cases h
abbrev nmT := List (List AttrT)
def nKa (n : Nat) (l4 : List UInt8) (j : Int) (K : List UInt8 → Int → Option (List UInt8 × Option Int)) : Option (List UInt8) → Option (List UInt8 × Option Int)
 | none => some ([], some 1)
 | some y => K (l4 ++ elF 49 y) (j + 1)
theorem nw_l2 {n : Nat} (hn : 3000 ≤ n) {a : nmT} {j : Nat} (hj : j < a.length) (hj8 : a.length ≤ 8) (l4 : List UInt8) (hl4 : l4.length ≤ 100000) (h4 : (a.getD j []).length ≤ 4) (K : List UInt8 → Int → Option (List UInt8 × Option Int)) :
  ∀ (fu i : Nat) (acc last : List UInt8), (a.getD j []).length < i + fu → i ≤ (a.getD j []).length → acc.length ≤ 200 * i →
   nWrite_l2 n a l4 (j : Int) K fu acc last (i : Int) = nKa n l4 (j : Int) K ((stpF ((a.getD j []).drop i) (decide (i = 0)) last).map (acc ++ ·))
 | 0, i, acc, last, h, h1, h2 => by omega
 | fu + 1, i, acc, last, h, h1, h2 => by
  rw [nWrite_l2]
  simp only [Int.toNat_natCast]
  by_cases hi : i < (a.getD j []).length
  ·rw [ite_t (decide_eq_true (by omega)), gd_pos (by omega), gd_pos (by omega), nAttr_is hn, Option.bind_some, drop_at (z := ([], (0, []))) hi, stpF]
   generalize hx : (a.getD j []).getD i ([], (0, [])) = x
   cases ho : atOk x with
   | false => simp [nKa]
   | true =>
    have hal := atF_len ho
    simp only [if_pos, Bool.true_and]
    rw [ite_f (by rfl)]
    have go : nWrite_l2 n a l4 (j : Int) K fu (acc ++ atF x) (atF x) ((i : Int) + 1) = nKa n l4 (j : Int) K ((stpF ((a.getD j []).drop (i + 1)) false (atF x)).map ((acc ++ atF x) ++ ·)) := by
     have := nw_l2 hn hj hj8 l4 hl4 h4 K fu (i + 1) (acc ++ atF x) (atF x) (by omega) hi (by rw [List.length_append]; omega)
     rw [show decide (i + 1 = 0) = false from decide_eq_false (by omega)] at this
     exact this
    have e2 : ∀ o : Option (List UInt8), (o.map (atF x ++ ·)).map (acc ++ ·) = o.map ((acc ++ atF x) ++ ·) := fun o => by cases o <;> simp
    by_cases h0 : i = 0
    ·rw [ite_f (decide_eq_false (by omega)), gd_pos (by unfold rmB; omega), gd_pos (okI64 (by omega) (by omega)), go, decide_eq_true h0, Bool.true_or, if_pos rfl, e2]
    ·rw [ite_t (decide_eq_true (by omega)), cmp_less, decide_eq_false h0, Bool.false_or]
     cases Op.bytesLess last (atF x) with
     | false => simp [nKa]
     | true => rw [ite_f (by rfl), gd_pos (by unfold rmB; omega), gd_pos (okI64 (by omega) (by omega)), go, if_pos rfl, e2]
  ·rw [ite_f (decide_eq_false (by omega)), tHead_is n (by decide) (by omega) (by omega), Option.bind_some, ite_f (by rfl), List.drop_of_length_le (by omega)]
   have := hdF_len 49 (acc.length : Int)
   rw [gd_pos (by unfold rmB; simp only; omega), gd_pos (by unfold rmB; simp only [List.length_append]; omega), gd_pos (okI64 (by omega) (by omega))]
   simp [stpF, nKa, elF]
def nm : nmT → Option (List UInt8)
 | [] => some []
 | s :: t => if 1 ≤ s.length ∧ s.length ≤ 4 then (match stpF s true [] with | none => none | some y => (nm t).map (elF 49 y ++ ·)) else none
theorem nm_len : ∀ (a : nmT) (y : List UInt8), nm a = some y → y.length ≤ 804 * a.length
 | [], y, h => by injection h with h; rw [← h]; simp
 | s :: t, y, h => by
  rw [nm] at h
  split at h
  ·rename_i hc
   split at h
   ·cases h
   ·rename_i z hz
    obtain ⟨q, hq, rfl⟩ := Option.map_eq_some_iff.1 h
    have h1 := nm_len t q hq
    have h2 := stpF_len s true [] z hz
    have h3 := elF_len 49 z
    rw [List.length_append, List.length_cons]; omega
  ·cases h
def nmA (a : nmT) : Option (List UInt8) := if a.length ≤ 8 then (nm a).map (elF 48 ·) else none
theorem nw_l1 {n : Nat} (hn : 3000 ≤ n) {a : nmT} (h8 : a.length ≤ 8) : ∀ (fu j : Nat) (acc : List UInt8), a.length < j + fu → j ≤ a.length → acc.length ≤ 804 * j →
   nWrite_l1 n a fu acc (j : Int) = some (match (nm (a.drop j)).map (acc ++ ·) with | none => ([], some 1) | some y => (elF 48 y, none))
 | 0, j, acc, h, h1, h2 => by omega
 | fu + 1, j, acc, h, h1, h2 => by
  rw [nWrite_l1]
  simp only [Int.toNat_natCast]
  by_cases hj : j < a.length
  ·rw [ite_t (decide_eq_true (by omega)), gd_pos (by omega), gd_pos (by omega), drop_at (z := []) hj, nm]
   by_cases c1 : (a.getD j []).length < 1
   ·rw [ite_t (decide_eq_true (by omega)), if_neg (by omega)]; rfl
   ·rw [ite_f (decide_eq_false (by omega))]
    by_cases c2 : 4 < (a.getD j []).length
    ·rw [ite_t (decide_eq_true (by omega)), if_neg (by omega)]; rfl
    ·rw [ite_f (decide_eq_false (by omega)), if_pos ⟨by omega, by omega⟩]
     have e := nw_l2 hn hj h8 acc (by omega) (by omega) (nWrite_l1 n a fu) n 0 [] [] (by omega) (by omega) (by simp)
     rw [show ((0 : Nat) : Int) = 0 from rfl] at e
     rw [e, List.drop_zero, show decide (0 = 0) = true from rfl]
     cases hs : stpF (a.getD j []) true [] with
     | none => simp [nKa]
     | some y =>
      have l1 := stpF_len _ _ _ _ hs
      have l2 := elF_len 49 y
      have := nw_l1 hn h8 fu (j + 1) (acc ++ elF 49 y) (by omega) hj (by rw [List.length_append]; omega)
      simp only [Option.map_some, nKa, List.nil_append]
      rw [show ((j : Int) + 1) = ((j + 1 : Nat) : Int) by omega, this]
      cases nm (a.drop (j + 1)) <;> simp
  ·have := hdF_len 48 (acc.length : Int)
   rw [ite_f (decide_eq_false (by omega)), tHead_is n (by decide) (by omega) (by omega), Option.bind_some, ite_f (by rfl), List.drop_of_length_le (by omega), gd_pos (by unfold rmB; simp only; omega)]
   simp [nm, elF]
theorem nWrite_is {n : Nat} (hn : 3000 ≤ n) {a : nmT} : nWrite n a = some (match nmA a with | none => ([], some 1) | some y => (y, none)) := by
 unfold nWrite nmA
 by_cases h8 : a.length ≤ 8
 ·rw [ite_f (decide_eq_false (by omega)), if_pos h8, show (0 : Int) = ((0 : Nat) : Int) from rfl, nw_l1 hn h8 n 0 [] (by omega) (by omega) (by simp), List.drop_zero]
  cases nm a <;> simp
 ·rw [ite_t (decide_eq_true (by omega)), if_neg h8]
end Go.Sx
end
section
namespace Go.Proofs.Ytobfglafchoipaa
open Go.RowKit Go.Ch Go.Sx Go.Lib Go.Shelf Go.Proofs
theorem cat_u8W : (Try.prog.info? 92).map (fun i => (i.zero, i.size, i.bytes)) = some (some (.int .u32 0), 1, 4) := by kernel_rfl
set_option maxHeartbeats 2000000 in
set_option maxRecDepth 100000 in
theorem grow_0W (w : World) : Calls Try.prog 88 #[.slice none 0 0, .int .i64 0] w (Ret fun v w' => Ext w w' ∧ Own w' w.heap.size 92 v []) := by
 go_enter Try.func88, Try.ntmps88
 go_wp2
 go_ret
 exact ⟨_, rfl, Below.refl _ _, World.ownsRow_nil _ _ _ _⟩
set_option maxHeartbeats 4000000 in
set_option maxRecDepth 100000 in
theorem grow_1W (w : World) (n : Nat) (h0 : 0 < n) (hn : n ≤ 1000000000000) : Calls Try.prog 88 #[.slice none 0 0, .int .i64 n] w (Ret fun v w' => Ext w w' ∧ Own w' w.heap.size 92 v []) := by
 obtain ⟨i0, hi0, hz0, hs0, hb0⟩ := info_parts cat_u8W
 have t22 : Try.prog.underlying 44 = some (.slice 92) := Try.underlying44
 have t3 : Try.prog.underlying 3 = some (.int .i64) := Try.underlying3
 have u22 := run_underlying t22
 have u3 := run_underlying t3
 have h1 : ¬ ((n : Int) < 0) := by omega
 have h3 : wrap64 ((n : Int) - 0) = (n : Int) := by unfold wrap64; omega
 have h4 : (n : Int) > 0 := by omega
 have hold : (Builtin.firstCells i0.size 0 (.slice none 0 0)).run Try.prog w.drew = .ok (#[] : Array Value) w.drew := run_firstCells_none w.drew i0.size 0 0 0
 have hrz : ∀ ty, (Builtin.append_ #[44, 3] ty #[.slice none 0 0, .int .i64 (n : Int)]).run Try.prog w =
   .ok (.slice (some ⟨w.heap.size, 0, none⟩) n (grownCap w n 0 92)) (w.drew.alloc (.cells (#[] ++ Builtin.zeroCells (Value.cells (.int .u32 0)) n ++ Builtin.zeroCells (Value.cells (.int .u32 0)) (grownCap w n 0 92 - n)) 92)) := fun ty => by
  have h := Lib.run_append_grow_zeros w 44 3 ty 92 i0 (.int .u32 0) .i64 .i64 t22 t3 hi0 hz0 none 0 0 [] hold n (by omega) (by omega) (by omega) (by omega)
   (by rw [hb0]; omega)
   (by have := growslice_fits (show 0 < n from h0) (show n * i0.bytes ≤ 140737488355328 by rw [hb0]; omega); simpa using this)
  simpa using h
 have hGn : n ≤ grownCap w n 0 92 := grownCap_ge w _ _ _
 have hGm := grownCap_le_maxLen w n 0 92 (by unfold maxLen; omega)
 obtain ⟨G, hG⟩ : ∃ G, G = grownCap w n 0 92 := ⟨_, rfl⟩
 rw [← hG] at hrz hGn hGm
 have hG63 : G ≤ 9223372036854775807 := by unfold maxLen at hGm; omega
 clear hold hG
 go_enter Try.func88, Try.ntmps88
 go_wp2_with (at_builtin; refine Lib.wpList_append_run _ rfl _ _ _ _ rfl _ _ rfl rfl _ _ (hrz _) ?_)
 all_goals
  go_ret
  refine ⟨_, rfl, ?_, rfl, .inr ⟨w.heap.size, G, Builtin.zeroCells #[Value.int .u32 0] n ++ Builtin.zeroCells #[Value.int .u32 0] (G - n), rfl, Nat.le_refl _, ?_, Nat.zero_le _, hGm, ?_, ?_⟩⟩
  ·exact ((Below.refl _ _).alloc (Nat.le_refl _) _).drew
  ·show (w.heap.push _)[w.heap.size]? = _
   exact Array.getElem?_push_size
  ·have hz : ∀ k, (Builtin.zeroCells #[Value.int .u32 0] k).size = k := fun k => by simp [Builtin.zeroCells]
   rw [Array.size_append, hz, hz]; omega
  ·simp
theorem grow_cW (w : World) (n : Nat) (hn : n ≤ 1000000000000) : Calls Try.prog 88 #[.slice none 0 0, .int .i64 n] w (Ret fun v w' => Ext w w' ∧ Own w' w.heap.size 92 v []) := by
 cases n with
 | zero => exact grow_0W w
 | succ n => exact grow_1W w (n + 1) (Nat.succ_pos _) hn
theorem cat_slW : (Try.prog.info? 44).map (fun i => (i.zero, i.size, i.bytes)) = some (some (.slice none 0 0), 1, 24) := by kernel_rfl
def SlSW (w : World) (vs : List Value) (ls : List (List UInt32)) : Prop := vs.length = ls.length ∧ ∀ i, i < ls.length → ∃ B, Sl w B (vs.getD i undef) ((ls.getD i []).map w32)
theorem flat_takeW (ls : List (List UInt32)) (k : Nat) (h : k < ls.length) : (ls.take (k + 1)).flatten = (ls.take k).flatten ++ ls.getD k [] := by
 rw [List.take_succ_eq_append_getElem h, List.flatten_append, List.getD_eq_getElem?_getD, List.getElem?_eq_getElem h]; simp
theorem flat_leW (ls : List (List UInt32)) (k : Nat) : (ls.take k).flatten.length ≤ ls.flatten.length := by
 have : ls.flatten = (ls.take k).flatten ++ (ls.drop k).flatten := by rw [← List.flatten_append, List.take_append_drop]
 rw [this, List.length_append]; omega
theorem vgetW {vs : List Value} {k n : Nat} (hn : vs.length = n) (h : k < n) : vs[k]? = some (vs.getD k undef) := by
 rw [List.getD_eq_getElem?_getD, List.getElem?_eq_getElem (by omega)]; rfl
set_option maxHeartbeats 800000 in
theorem concat_cW (w : World) (B : Nat) (v : Value) (vs : List Value) (ls : List (List UInt32)) (hv : Sl w B v vs) (hvs : SlSW w vs ls) (hl : ls.length ≤ 1000000) (hb : ls.flatten.length ≤ 1000000000) :
  Calls Try.prog 85 #[v] w (Ret fun v' w' => Ext w w' ∧ Own w' w.heap.size 92 v' (ls.flatten.map w32)) := by
 obtain ⟨i92, hi92, hz92, hs92, hb92⟩ := info_parts cat_u8W
 obtain ⟨i44, hi44, hz44, hs44, hb44⟩ := info_parts cat_slW
 have hvl := hvs.1
 go_enter Try.func85, Try.ntmps85
 go_wp2_with (first
  | ((with_reducible refine g_at (d := 10) ?_); refine wpl_len rfl Try.underlying115 hv (by first | rw [List.length_map] | rfl) ?_; try (conv in (Act.put _ _ _) => simp only [Act.put, List.setIfInBounds_toArray, List.set_cons_succ, List.set_cons_zero]))
  | ((with_reducible refine g_at (d := 17) ?_); refine wpl_len rfl Try.underlying44 (by first | assumption | exact Own.sl (by assumption) | exact Sl.back (by first | assumption | exact Ext.drew' (by assumption) | exact Ext.undrew (by assumption)) (by first | assumption | exact Own.sl (by assumption) | exact Sl.back (by first | assumption | exact Ext.drew' (by assumption) | exact Ext.undrew (by assumption)) (by first | assumption | exact Own.sl (by assumption) | exact Sl.back (by first | assumption | exact Ext.drew' (by assumption) | exact Ext.undrew (by assumption)) (by first | assumption | exact Own.sl (by assumption) | exact Sl.back (by first | assumption | exact Ext.drew' (by assumption) | exact Ext.undrew (by assumption)) (by first | assumption | exact Own.sl (by assumption) | exact Sl.back (by first | assumption | exact Ext.drew' (by assumption) | exact Ext.undrew (by assumption)) (by first | assumption | exact Own.sl (by assumption) | exact Sl.back (by first | assumption | exact Ext.drew' (by assumption) | exact Ext.undrew (by assumption)) (by first | assumption | exact Own.sl (by assumption) | exact Sl.back (by first | assumption | exact Ext.drew' (by assumption) | exact Ext.undrew (by assumption)) (by first | assumption | exact Own.sl (by assumption))))))))) (by first | rw [List.length_map] | rfl) ?_; try (conv in (Act.put _ _ _) => simp only [Act.put, List.setIfInBounds_toArray, List.set_cons_succ, List.set_cons_zero]))
  | ((with_reducible refine g_at (d := 26) ?_); refine wpl_len rfl Try.underlying115 (by first | assumption | exact Own.sl (by assumption) | exact Sl.back (by first | assumption | exact Ext.drew' (by assumption) | exact Ext.undrew (by assumption)) (by first | assumption | exact Own.sl (by assumption) | exact Sl.back (by first | assumption | exact Ext.drew' (by assumption) | exact Ext.undrew (by assumption)) (by first | assumption | exact Own.sl (by assumption) | exact Sl.back (by first | assumption | exact Ext.drew' (by assumption) | exact Ext.undrew (by assumption)) (by first | assumption | exact Own.sl (by assumption) | exact Sl.back (by first | assumption | exact Ext.drew' (by assumption) | exact Ext.undrew (by assumption)) (by first | assumption | exact Own.sl (by assumption) | exact Sl.back (by first | assumption | exact Ext.drew' (by assumption) | exact Ext.undrew (by assumption)) (by first | assumption | exact Own.sl (by assumption) | exact Sl.back (by first | assumption | exact Ext.drew' (by assumption) | exact Ext.undrew (by assumption)) (by first | assumption | exact Own.sl (by assumption) | exact Sl.back (by first | assumption | exact Ext.drew' (by assumption) | exact Ext.undrew (by assumption)) (by first | assumption | exact Own.sl (by assumption))))))))) (by first | rw [List.length_map] | rfl) ?_; try (conv in (Act.put _ _ _) => simp only [Act.put, List.setIfInBounds_toArray, List.set_cons_succ, List.set_cons_zero])))
 rw [hvl]
 go_loopw [3, 11] (fun s i wr => ∃ k : Nat, k ≤ ls.length ∧ i = .int .i64 k ∧ s = .int .i64 (((ls.take k).flatten.length : Nat) : Int) ∧ Ext w wr) (fun _ i _ => ls.length - (RowKit.intOf i).toNat)
 case atStart => exact ⟨0, Nat.zero_le _, rfl, by simp, Below.refl _ _⟩
 case round =>
  obtain ⟨k, hk, rfl, rfl, hx⟩ := hrel
  by_cases hlt : k < ls.length
  ·obtain ⟨Bi, hsi⟩ := hvs.2 k hlt
   have hf := flat_takeW ls k hlt
   have hle := flat_leW ls (k + 1)
   generalize ls.getD k [] = x at *
   rw [hf, List.length_append] at hle
   have hg : (ls.take (k + 1)).flatten.length = (ls.take k).flatten.length + x.length := by rw [hf, List.length_append]
   have HF := Lib.hid hg
   clear hf hg
   generalize (ls.take k).flatten.length = S at *
   have hw : wrap64 ((S : Int) + (x.length : Int)) = (S : Int) + (x.length : Int) := by unfold wrap64; omega
   have hneg : ¬ ((S : Int) + (x.length : Int) < 0) := Int.not_lt.2 (Int.add_nonneg (Int.natCast_nonneg _) (Int.natCast_nonneg _))
   go_wp2_with (first
    | ((with_reducible refine g_at (d := 13) ?_); refine wpl_index rfl rfl Try.underlying115 hi44 hs44 (hv.ext hx) rfl (vgetW hvl hlt) ?_; intro ad13 hb13 hc13; try (conv in (Act.put _ _ _) => simp only [Act.put, List.setIfInBounds_toArray, List.set_cons_succ, List.set_cons_zero]))
    | ((with_reducible refine g_at (d := 14) ?_); refine wpl_load1 rfl Try.underlying44 rfl hc13 ?_; try (conv in (Act.put _ _ _) => simp only [Act.put, List.setIfInBounds_toArray, List.set_cons_succ, List.set_cons_zero]))
    | ((with_reducible refine g_at (d := 17) ?_); refine wpl_len rfl Try.underlying44 (hsi.ext hx) (by first | rw [List.length_map] | rfl) ?_; try (conv in (Act.put _ _ _) => simp only [Act.put, List.setIfInBounds_toArray, List.set_cons_succ, List.set_cons_zero]))
    | ((with_reducible refine g_at (d := 10) ?_); refine wpl_len rfl Try.underlying115 (by first | assumption | exact Own.sl (by assumption) | exact Sl.back (by first | assumption | exact Ext.drew' (by assumption) | exact Ext.undrew (by assumption)) (by first | assumption | exact Own.sl (by assumption) | exact Sl.back (by first | assumption | exact Ext.drew' (by assumption) | exact Ext.undrew (by assumption)) (by first | assumption | exact Own.sl (by assumption) | exact Sl.back (by first | assumption | exact Ext.drew' (by assumption) | exact Ext.undrew (by assumption)) (by first | assumption | exact Own.sl (by assumption) | exact Sl.back (by first | assumption | exact Ext.drew' (by assumption) | exact Ext.undrew (by assumption)) (by first | assumption | exact Own.sl (by assumption) | exact Sl.back (by first | assumption | exact Ext.drew' (by assumption) | exact Ext.undrew (by assumption)) (by first | assumption | exact Own.sl (by assumption) | exact Sl.back (by first | assumption | exact Ext.drew' (by assumption) | exact Ext.undrew (by assumption)) (by first | assumption | exact Own.sl (by assumption) | exact Sl.back (by first | assumption | exact Ext.drew' (by assumption) | exact Ext.undrew (by assumption)) (by first | assumption | exact Own.sl (by assumption))))))))) (by first | rw [List.length_map] | rfl) ?_; try (conv in (Act.put _ _ _) => simp only [Act.put, List.setIfInBounds_toArray, List.set_cons_succ, List.set_cons_zero]))
    | ((with_reducible refine g_at (d := 26) ?_); refine wpl_len rfl Try.underlying115 (by first | assumption | exact Own.sl (by assumption) | exact Sl.back (by first | assumption | exact Ext.drew' (by assumption) | exact Ext.undrew (by assumption)) (by first | assumption | exact Own.sl (by assumption) | exact Sl.back (by first | assumption | exact Ext.drew' (by assumption) | exact Ext.undrew (by assumption)) (by first | assumption | exact Own.sl (by assumption) | exact Sl.back (by first | assumption | exact Ext.drew' (by assumption) | exact Ext.undrew (by assumption)) (by first | assumption | exact Own.sl (by assumption) | exact Sl.back (by first | assumption | exact Ext.drew' (by assumption) | exact Ext.undrew (by assumption)) (by first | assumption | exact Own.sl (by assumption) | exact Sl.back (by first | assumption | exact Ext.drew' (by assumption) | exact Ext.undrew (by assumption)) (by first | assumption | exact Own.sl (by assumption) | exact Sl.back (by first | assumption | exact Ext.drew' (by assumption) | exact Ext.undrew (by assumption)) (by first | assumption | exact Own.sl (by assumption) | exact Sl.back (by first | assumption | exact Ext.drew' (by assumption) | exact Ext.undrew (by assumption)) (by first | assumption | exact Own.sl (by assumption))))))))) (by first | rw [List.length_map] | rfl) ?_; try (conv in (Act.put _ _ _) => simp only [Act.put, List.setIfInBounds_toArray, List.set_cons_succ, List.set_cons_zero])))
   go_roundw
   case rel => exact ⟨k + 1, by omega, by go_num, by rw [HF.out]; go_num, hx⟩
   case measure => simp [RowKit.intOf]; omega
  ·obtain rfl : k = ls.length := by omega
   rw [List.take_length]
   have HB := Lib.hid hb
   generalize hS : ls.flatten.length = S at *
   have HS := Lib.hid hS
   clear hS
   go_wp2_with (first
    | ((with_reducible refine g_at (d := 24) ?_); refine wpl_call Try.func88 (by kernel_rfl) (by kernel_rfl) rfl (grow_cW wr S (Nat.le_trans HB.out (by decide))) ?_; rintro v24 w24 ⟨hx24, h24⟩; try (conv in (Act.put _ _ _) => simp only [Act.put, List.setIfInBounds_toArray, List.set_cons_succ, List.set_cons_zero]))
    | ((with_reducible refine g_at (d := 26) ?_); refine wpl_len rfl Try.underlying115 (hv.ext (hx.tr hx24)) (by first | rw [List.length_map] | rfl) ?_; try (conv in (Act.put _ _ _) => simp only [Act.put, List.setIfInBounds_toArray, List.set_cons_succ, List.set_cons_zero]))
    | ((with_reducible refine g_at (d := 10) ?_); refine wpl_len rfl Try.underlying115 (by first | assumption | exact Own.sl (by assumption) | exact Sl.back (by first | assumption | exact Ext.drew' (by assumption) | exact Ext.undrew (by assumption)) (by first | assumption | exact Own.sl (by assumption) | exact Sl.back (by first | assumption | exact Ext.drew' (by assumption) | exact Ext.undrew (by assumption)) (by first | assumption | exact Own.sl (by assumption) | exact Sl.back (by first | assumption | exact Ext.drew' (by assumption) | exact Ext.undrew (by assumption)) (by first | assumption | exact Own.sl (by assumption) | exact Sl.back (by first | assumption | exact Ext.drew' (by assumption) | exact Ext.undrew (by assumption)) (by first | assumption | exact Own.sl (by assumption) | exact Sl.back (by first | assumption | exact Ext.drew' (by assumption) | exact Ext.undrew (by assumption)) (by first | assumption | exact Own.sl (by assumption) | exact Sl.back (by first | assumption | exact Ext.drew' (by assumption) | exact Ext.undrew (by assumption)) (by first | assumption | exact Own.sl (by assumption) | exact Sl.back (by first | assumption | exact Ext.drew' (by assumption) | exact Ext.undrew (by assumption)) (by first | assumption | exact Own.sl (by assumption))))))))) (by first | rw [List.length_map] | rfl) ?_; try (conv in (Act.put _ _ _) => simp only [Act.put, List.setIfInBounds_toArray, List.set_cons_succ, List.set_cons_zero]))
    | ((with_reducible refine g_at (d := 17) ?_); refine wpl_len rfl Try.underlying44 (by first | assumption | exact Own.sl (by assumption) | exact Sl.back (by first | assumption | exact Ext.drew' (by assumption) | exact Ext.undrew (by assumption)) (by first | assumption | exact Own.sl (by assumption) | exact Sl.back (by first | assumption | exact Ext.drew' (by assumption) | exact Ext.undrew (by assumption)) (by first | assumption | exact Own.sl (by assumption) | exact Sl.back (by first | assumption | exact Ext.drew' (by assumption) | exact Ext.undrew (by assumption)) (by first | assumption | exact Own.sl (by assumption) | exact Sl.back (by first | assumption | exact Ext.drew' (by assumption) | exact Ext.undrew (by assumption)) (by first | assumption | exact Own.sl (by assumption) | exact Sl.back (by first | assumption | exact Ext.drew' (by assumption) | exact Ext.undrew (by assumption)) (by first | assumption | exact Own.sl (by assumption) | exact Sl.back (by first | assumption | exact Ext.drew' (by assumption) | exact Ext.undrew (by assumption)) (by first | assumption | exact Own.sl (by assumption) | exact Sl.back (by first | assumption | exact Ext.drew' (by assumption) | exact Ext.undrew (by assumption)) (by first | assumption | exact Own.sl (by assumption))))))))) (by first | rw [List.length_map] | rfl) ?_; try (conv in (Act.put _ _ _) => simp only [Act.put, List.setIfInBounds_toArray, List.set_cons_succ, List.set_cons_zero])))
   rw [hvl]
   have hxx := hx.tr hx24
   have ho0 := h24.down hx.size
   clear hx hx24 h24
   go_loopw [6, 27] (fun o i wq => ∃ k : Nat, k ≤ ls.length ∧ i = .int .i64 k ∧ Own wq w.heap.size 92 o ((ls.take k).flatten.map w32) ∧ Ext w wq) (fun _ i _ => ls.length - (RowKit.intOf i).toNat)
   case atStart => exact ⟨0, Nat.zero_le _, rfl, by simpa using ho0, hxx⟩
   case round =>
    obtain ⟨k, hk, rfl, ho, hx⟩ := hrel
    by_cases hlt : k < ls.length
    ·obtain ⟨Bi, hsi⟩ := hvs.2 k hlt
     have hf := flat_takeW ls k hlt
     have hle := flat_leW ls (k + 1)
     generalize ls.getD k [] = x at *
     rw [hf, List.length_append] at hle
     have HF := Lib.hid hf
     clear hf
     generalize (ls.take k).flatten = X at *
     have hb9 : (List.map w32 X).length + (List.map w32 x).length ≤ 1000000000 := by rw [List.length_map, List.length_map]; have h1 := HS.out; have h2 := HB.out; omega
     go_wp2_with (first
      | ((with_reducible refine g_at (d := 29) ?_); refine wpl_index rfl rfl Try.underlying115 hi44 hs44 (hv.ext hx) rfl (vgetW hvl hlt) ?_; intro ad29 hb29 hc29; try (conv in (Act.put _ _ _) => simp only [Act.put, List.setIfInBounds_toArray, List.set_cons_succ, List.set_cons_zero]))
      | ((with_reducible refine g_at (d := 30) ?_); refine wpl_load1 rfl Try.underlying44 rfl hc29 ?_; try (conv in (Act.put _ _ _) => simp only [Act.put, List.setIfInBounds_toArray, List.set_cons_succ, List.set_cons_zero]))
      | ((with_reducible refine g_at (d := 33) ?_); refine wpl_append (v := u6) rfl rfl Try.underlying44 hi92 hz92 hs92 hb92 rfl ho (hsi.ext hx) (w32_one x) (by first | omega | (simp <;> omega)) (by omega) hx.size ?_; intro v33 w33 h33 hg33 ha33 hx33; try (conv in (Act.put _ _ _) => simp only [Act.put, List.setIfInBounds_toArray, List.set_cons_succ, List.set_cons_zero]))
      | ((with_reducible refine g_at (d := 10) ?_); refine wpl_len rfl Try.underlying115 (by first | assumption | exact Own.sl (by assumption) | exact Sl.back (by first | assumption | exact Ext.drew' (by assumption) | exact Ext.undrew (by assumption)) (by first | assumption | exact Own.sl (by assumption) | exact Sl.back (by first | assumption | exact Ext.drew' (by assumption) | exact Ext.undrew (by assumption)) (by first | assumption | exact Own.sl (by assumption) | exact Sl.back (by first | assumption | exact Ext.drew' (by assumption) | exact Ext.undrew (by assumption)) (by first | assumption | exact Own.sl (by assumption) | exact Sl.back (by first | assumption | exact Ext.drew' (by assumption) | exact Ext.undrew (by assumption)) (by first | assumption | exact Own.sl (by assumption) | exact Sl.back (by first | assumption | exact Ext.drew' (by assumption) | exact Ext.undrew (by assumption)) (by first | assumption | exact Own.sl (by assumption) | exact Sl.back (by first | assumption | exact Ext.drew' (by assumption) | exact Ext.undrew (by assumption)) (by first | assumption | exact Own.sl (by assumption) | exact Sl.back (by first | assumption | exact Ext.drew' (by assumption) | exact Ext.undrew (by assumption)) (by first | assumption | exact Own.sl (by assumption))))))))) (by first | rw [List.length_map] | rfl) ?_; try (conv in (Act.put _ _ _) => simp only [Act.put, List.setIfInBounds_toArray, List.set_cons_succ, List.set_cons_zero]))
      | ((with_reducible refine g_at (d := 17) ?_); refine wpl_len rfl Try.underlying44 (by first | assumption | exact Own.sl (by assumption) | exact Sl.back (by first | assumption | exact Ext.drew' (by assumption) | exact Ext.undrew (by assumption)) (by first | assumption | exact Own.sl (by assumption) | exact Sl.back (by first | assumption | exact Ext.drew' (by assumption) | exact Ext.undrew (by assumption)) (by first | assumption | exact Own.sl (by assumption) | exact Sl.back (by first | assumption | exact Ext.drew' (by assumption) | exact Ext.undrew (by assumption)) (by first | assumption | exact Own.sl (by assumption) | exact Sl.back (by first | assumption | exact Ext.drew' (by assumption) | exact Ext.undrew (by assumption)) (by first | assumption | exact Own.sl (by assumption) | exact Sl.back (by first | assumption | exact Ext.drew' (by assumption) | exact Ext.undrew (by assumption)) (by first | assumption | exact Own.sl (by assumption) | exact Sl.back (by first | assumption | exact Ext.drew' (by assumption) | exact Ext.undrew (by assumption)) (by first | assumption | exact Own.sl (by assumption) | exact Sl.back (by first | assumption | exact Ext.drew' (by assumption) | exact Ext.undrew (by assumption)) (by first | assumption | exact Own.sl (by assumption))))))))) (by first | rw [List.length_map] | rfl) ?_; try (conv in (Act.put _ _ _) => simp only [Act.put, List.setIfInBounds_toArray, List.set_cons_succ, List.set_cons_zero]))
      | ((with_reducible refine g_at (d := 26) ?_); refine wpl_len rfl Try.underlying115 (by first | assumption | exact Own.sl (by assumption) | exact Sl.back (by first | assumption | exact Ext.drew' (by assumption) | exact Ext.undrew (by assumption)) (by first | assumption | exact Own.sl (by assumption) | exact Sl.back (by first | assumption | exact Ext.drew' (by assumption) | exact Ext.undrew (by assumption)) (by first | assumption | exact Own.sl (by assumption) | exact Sl.back (by first | assumption | exact Ext.drew' (by assumption) | exact Ext.undrew (by assumption)) (by first | assumption | exact Own.sl (by assumption) | exact Sl.back (by first | assumption | exact Ext.drew' (by assumption) | exact Ext.undrew (by assumption)) (by first | assumption | exact Own.sl (by assumption) | exact Sl.back (by first | assumption | exact Ext.drew' (by assumption) | exact Ext.undrew (by assumption)) (by first | assumption | exact Own.sl (by assumption) | exact Sl.back (by first | assumption | exact Ext.drew' (by assumption) | exact Ext.undrew (by assumption)) (by first | assumption | exact Own.sl (by assumption) | exact Sl.back (by first | assumption | exact Ext.drew' (by assumption) | exact Ext.undrew (by assumption)) (by first | assumption | exact Own.sl (by assumption))))))))) (by first | rw [List.length_map] | rfl) ?_; try (conv in (Act.put _ _ _) => simp only [Act.put, List.setIfInBounds_toArray, List.set_cons_succ, List.set_cons_zero])))
     go_roundw
     case rel => exact ⟨k + 1, by omega, by go_num, by rw [HF.out, List.map_append]; exact h33, hx.trans hx33⟩
     case measure => simp [RowKit.intOf]; omega
    ·obtain rfl : k = ls.length := by omega
     rw [List.take_length] at ho
     go_wp2
     go_ret
     exact ⟨_, rfl, hx, ho⟩
end Go.Proofs.Ytobfglafchoipaa
end
section
namespace Go.Proofs.Ytobfglafchoipaa
open Go.RowKit Go.Ch Go.Sx
theorem slr_slW {w : World} {v : Value} {n : Nat} {vs : List Value} (h : SlR w v n 1 vs) : Sl w w.heap.size v vs := by
 obtain ⟨hl, A, c, rfl, h1, h2, h3, h4⟩ := h
 have hn : vs.length = n := by omega
 subst hn
 refine ⟨Nat.le_refl _, A, c, rfl, h1, h2, h3, fun ad had j u hu => ⟨?_, h4 ad had j u hu⟩⟩
 have := World.block_lt_of_cell? _ _ (h4 ad had j u hu)
 rwa [block_add] at this
def aLsW (H : Hp) : List Cl → Option (List (List UInt32))
 | [] => some []
 | c :: cs => (match aW H (.c c), aLsW H cs with | some l, some ls => some (l :: ls) | _, _ => none)
theorem aLs_okW {ρ : Pls} {w : World} {H : Hp} (hp : HpR ρ w H) : ∀ {cs : List Cl} {ls : List (List UInt32)} {vs : List Value}, aLsW H cs = some ls → F2 (clR ρ) cs vs → SlSW w vs ls
 | [], ls, vs, h, hv => by
  obtain rfl := F2.unnil hv
  simp only [aLsW, Option.some.injEq] at h
  subst h
  exact ⟨rfl, fun i hi => by simp at hi⟩
 | c :: cs, ls, vs, h, hv => by
  obtain ⟨v, vs', rfl, hc, hvs⟩ := F2.uncons hv
  simp only [aLsW] at h
  split at h
  ·rename_i l ls' hl hls
   injection h with h; subst h
   obtain ⟨h1, h2⟩ := aLs_okW hp hls hvs
   obtain ⟨p, hI⟩ := aW_ok hp hl hc 92
   have hs := hI.sl (fun _ _ h => csR_w.1 h) (by simp)
   refine ⟨by simp [h1], fun i hi => ?_⟩
   cases i with
   | zero => exact ⟨_, hs⟩
   | succ i => exact h2 i (by simpa using hi)
  ·cases h
def cat_ctW : Ct := fun args H => match args with
 | [.c x] => (match vcs H x with
  | some (sz, _, .c cells) => (match Nat.beq sz 1, aLsW H cells with
   | true, some ls => some ([ls.length ≤ 1000000, ls.flatten.length ≤ 1000000000], .c (.wh H.length), [⟨.row, 92, 1, ls.flatten.length, .w ls.flatten⟩])
   | _, _ => none)
  | _ => none)
 | _ => none
theorem cat_hW : FnOk Try.prog Tr 85 cat_ctW := by
 refine ⟨fun args H g av objs hF hg ρ w vals hG hp ha => ?_, _, Try.func85, by kernel_rfl, by kernel_rfl⟩
 unfold cat_ctW at hF
 split at hF
 ·rename_i x
  split at hF
  ·rename_i sz n cells hx
   split at hF
   ·rename_i ls hsz hls
    simp only [Option.some.injEq, Prod.mk.injEq] at hF
    obtain ⟨rfl, rfl, rfl⟩ := hF
    obtain ⟨v, vals, rfl, k, ha⟩ := F2.inv ha
    obtain rfl := F2.inv0 ha
    have e1 := Nat.eq_of_beq_eq_true hsz
    subst e1
    obtain ⟨vs, hc, hS⟩ := vcs_ok hp hx k
    obtain ⟨g1, g2⟩ : ls.length ≤ 1000000 ∧ ls.flatten.length ≤ 1000000000 := by simpa [allP] using hg
    exact calls_mono (concat_cW w _ v vs ls (slr_slW hS) (aLs_okW hp hls hc) g1 g2) fun v w' ⟨hx, hv⟩ => ⟨hx, left_row hv (fun _ => csR_w.2 rfl) (by rw [List.length_map])⟩
   ·cases hF
  ·cases hF
 ·cases hF
end Go.Proofs.Ytobfglafchoipaa
end
