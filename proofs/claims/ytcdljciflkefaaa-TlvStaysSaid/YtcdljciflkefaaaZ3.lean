import Derived.Test.YtcdljciflkefaaaZ2
import Derived.Test.YtcdljciflkefaaaProg
set_option linter.unusedVariables false
set_option linter.unusedSimpArgs false
section
namespace Go.Proofs.Ytcdljciflkefaaa
open Go.RowKit Go.Ch Go.Sx
def tabL_tva : List (TypeId × Ti) := [(3, ⟨.int .i64, 1, 8, true, some [.int .i64]⟩),
 (4, ⟨.bool, 1, 1, true, some [.bool]⟩),
 (5, ⟨.int .u8, 1, 1, true, some [.int .u8]⟩),
 (9, ⟨.str, 1, 16, true, some [.str]⟩),
 (23, ⟨.sl 5, 1, 24, false, some [.nils]⟩),
 (25, ⟨.ifc, 1, 16, true, some [.ifc]⟩),
 (29, ⟨.int .i64, 1, 8, true, some [.int .i64]⟩),
 (33, ⟨.ptr 58, 1, 8, true, some [.ptr]⟩),
 (47, ⟨.ptr 68, 1, 8, true, some [.ptr]⟩)]
def tab_tva : Tab := fun t => (tabL_tva).lookup t
theorem tabE_tva : (tabL_tva.map fun p => tiOf Try.prog p.1) = tabL_tva.map fun p => some p.2 := by kernel_rfl
theorem tabO_tva : TabOk Try.prog tab_tva := tab_of tabE_tva
def rHead (n : Nat) (a0 : UInt8) (a1 : Int) : Option (List UInt8) :=
 bif (decide (a1 < (128 : Int))) then
 some [a0, (UInt8.ofInt a1)]
 else
 bif (decide (a1 < (256 : Int))) then
 some [a0, 129, (UInt8.ofInt a1)]
 else
 gd ((256 : Int) ≠ 0) <|
 gd (okI .i64 (Int.tdiv a1 256)) <|
 gd ((256 : Int) ≠ 0) <|
 some [a0, 130, (UInt8.ofInt (Int.tdiv a1 256)), (UInt8.ofInt (Int.tmod a1 256))]
def rEl (n : Nat) (a0 : UInt8) (a1 : List UInt8) : Option (List UInt8) :=
 (rHead n a0 ((a1.length : Nat) : Int)).bind fun r8 =>
 gd (rmB (r8.length + a1.length) 1) <|
 some (r8 ++ a1)
def tup (n : Nat) : Option (Bool) :=
 (wNew n).bind fun r7 =>
 (tNewR n [2, 129, 1, 5]).bind fun r9 =>
 (wOpen1 n 0 [] 48).bind fun r17 =>
 (wPut2 n 0 [] 48 [] 2 [5]).bind fun r20 =>
 (wClose2 n 0 [] 48 r20).bind fun r22 =>
 (wBytes1 n 0 r22).bind fun r25 =>
 (tTake n r9.1 0 r9.2 2).bind fun r30 =>
 bif (r22 == ([48, 3, 2, 1, 5] : List UInt8)) then
  gd (¬((r30.2.2 : Option Int) = none ∧ ((some 2) : Option Int) = none)) <|
  some (r30.2.2 == (some 2))
 else
  some false
def lStays_l4 (n : Nat) (r26 : Bool) (r59 : List UInt8) (r94 : List UInt8) (r121 : Int × List UInt8 × Option Int) (r126 : Int × List UInt8 × Option Int) : Nat → List UInt8 → Int → Option (Bool)
 | 0, _, _ => none
 | fu_l4 + 1, l20_2, i25_2 =>
 bif (decide (i25_2 < ((r121.2.1.length : Nat) : Int))) then
 gd (0 ≤ i25_2) <|
 gd (i25_2 < ((r121.2.1.length : Nat) : Int)) <|
 gd (0 ≤ i25_2) <|
 gd (i25_2 < ((r121.2.1.length : Nat) : Int)) <|
 gd (okI .i64 (i25_2 + 1)) <|
 (lStays_l4 n r26 r59 r94 r121 r126 fu_l4) (l20_2.set i25_2.toNat ((l20_2.getD i25_2.toNat 0) + (1 : UInt8))) (i25_2 + 1)
 else
 bif r26 then
 bif (r59 == r94) then
 bif (r59 == r94) then
 bif (r121.2.1 == r126.2.1) then
 some (((r121.2.2).isNone) == ((r126.2.2).isNone))
 else
 some false
 else
 some false
 else
 some false
 else
 some false
def lStays_l3 (n : Nat) (r26 : Bool) (r44 : List UInt8 × List Int) (r46 : List UInt8 × List Int) (r59 : List UInt8) (r94 : List UInt8) : Nat → List UInt8 → Int → Option (Bool)
 | 0, _, _ => none
 | fu_l3 + 1, l13_2, i17_2 =>
  bif (decide (i17_2 < ((r59.length : Nat) : Int))) then
   gd (0 ≤ i17_2) <|
   gd (i17_2 < ((r59.length : Nat) : Int)) <|
   gd (0 ≤ i17_2) <|
   gd (i17_2 < ((r59.length : Nat) : Int)) <|
   gd (okI .i64 (i17_2 + 1)) <|
   (lStays_l3 n r26 r44 r46 r59 r94 fu_l3) (l13_2.set i17_2.toNat ((l13_2.getD i17_2.toNat 0) + (1 : UInt8))) (i17_2 + 1)
  else
   (wBytes1 n 0 r59).bind fun r116 =>
   (tWhole n r44.1 0 r44.2).bind fun r121 =>
   (tWhole n r46.1 0 r46.2).bind fun r126 =>
   lStays_l4 n r26 r59 r94 r121 r126 n r121.2.1 0
def lStays_l2 (n : Nat) (a0 : List UInt8) (a1 : List UInt8) (r26 : Bool) (r44 : List UInt8 × List Int) (r46 : List UInt8 × List Int) (r59 : List UInt8) : Nat → List UInt8 → Int → Option (Bool)
 | 0, _, _ => none
 | fu_l2 + 1, l8_2, i12_2 =>
  bif (decide (i12_2 < ((([] ++ a1).length : Nat) : Int))) then
   gd (0 ≤ i12_2) <|
   gd (i12_2 < ((([] ++ a1).length : Nat) : Int)) <|
   gd (0 ≤ i12_2) <|
   gd (i12_2 < ((([] ++ a1).length : Nat) : Int)) <|
   gd (okI .i64 (i12_2 + 1)) <|
   (lStays_l2 n a0 a1 r26 r44 r46 r59 fu_l2) (l8_2.set i12_2.toNat ((l8_2.getD i12_2.toNat 0) + (1 : UInt8))) (i12_2 + 1)
  else
   (wBytes1 n 0 r59).bind fun r90 =>
   (rEl n 4 a0).bind fun r94 =>
   lStays_l3 n r26 r44 r46 r59 r94 n r59 0
def lStays_l1 (n : Nat) (a0 : List UInt8) (a1 : List UInt8) (r26 : Bool) (r44 : List UInt8 × List Int) (r46 : List UInt8 × List Int) (r59 : List UInt8) : Nat → List UInt8 → Int → Option (Bool)
 | 0, _, _ => none
 | fu_l1 + 1, l6_2, i11_2 =>
 bif (decide (i11_2 < ((([] ++ a0).length : Nat) : Int))) then
 gd (0 ≤ i11_2) <|
 gd (i11_2 < ((([] ++ a0).length : Nat) : Int)) <|
 gd (0 ≤ i11_2) <|
 gd (i11_2 < ((([] ++ a0).length : Nat) : Int)) <|
 gd (okI .i64 (i11_2 + 1)) <|
 (lStays_l1 n a0 a1 r26 r44 r46 r59 fu_l1) (l6_2.set i11_2.toNat ((l6_2.getD i11_2.toNat 0) + (1 : UInt8))) (i11_2 + 1)
 else
 lStays_l2 n a0 a1 r26 r44 r46 r59 n ([] ++ a1) 0
def lStays (n : Nat) (a0 : List UInt8) (a1 : List UInt8) : Option (Bool) :=
 (tup n).bind fun r26 =>
 bif (decide ((300 : Int) < ((a0.length : Nat) : Int))) then
  some r26
 else
  bif (decide ((1000 : Int) < ((a1.length : Nat) : Int))) then
   some r26
  else
   gd (rmB (0 + a0.length) 1) <|
   (wNew n).bind fun r39 =>
   gd (rmB (0 + a1.length) 1) <|
   (tNewR n ([] ++ a1)).bind fun r44 =>
   (tNewR n a1).bind fun r46 =>
   (wPut1 n 0 [] 4 ([] ++ a0)).bind fun r59 =>
   lStays_l1 n a0 a1 r26 r44 r46 r59 n ([] ++ a0) 0
def rHead_R (r : List UInt8) : S := ⟨[(4, kH 0)], [], [nb 5 r]⟩
def rHead_ct (n : Nat) (r : List UInt8) : Ct := ctc rU8.rd fun _ l0 => ctc rI.rd fun _ l1 => ct0 fun H => ([rHead n l0 l1 = some r], shA H.length (kH 0), shH H.length [nb 5 r])
theorem rHead_ok (n : Nat) (r : List UInt8) : FnOk Try.prog Tr 10 (rHead_ct n r) := by
 refine fnok Try.func10 ?_
 refine HO_c rU8 fun l0 _ => HO_c rI fun l1 _ => HO_0 tabO_tva (rHead_R r) [.tmp 4] [0] 25 Try.func10 fun w hG h => ?_
 unfold rHead at h
 have hT := tabO_tva
 refine Vrs hT [] ⟨[(0, kU l0), (1, kI l1)], [], []⟩ ?_
 refine W_seq ?_
 refine Vrs hT [] ⟨[(0, kU l0), (1, kI l1), (6, kB (decide (l1 < (128 : Int))))], [], []⟩ ?_
 refine Vi ((decide (l1 < (128 : Int)))) (fun g5 => ?_) (fun g5 => ?_)
 ·replace h := bif_t h g5
  refine Vrs hT [0] ⟨[(4, kH 0)], [], [⟨.row, 5, 1, 2, .b [l0, (UInt8.ofInt l1)]⟩]⟩ ?_
  refine Vc [] [0] (rHead_R [l0, (UInt8.ofInt l1)]) (W_ret ?_)
  exact ⟨.inl rfl, by cases h; rfl⟩
 ·replace h := bif_f h g5
  refine W_skip ?_
  refine W_seq ?_
  refine Vrs hT [] ⟨[(0, kU l0), (1, kI l1), (12, kB (decide (l1 < (256 : Int))))], [], []⟩ ?_
  refine Vi ((decide (l1 < (256 : Int)))) (fun g4 => ?_) (fun g4 => ?_)
  ·replace h := bif_t h g4
   refine Vrs hT [0] ⟨[(4, kH 0)], [], [⟨.row, 5, 1, 3, .b [l0, 129, (UInt8.ofInt l1)]⟩]⟩ ?_
   refine Vc [] [0] (rHead_R [l0, 129, (UInt8.ofInt l1)]) (W_ret ?_)
   exact ⟨.inl rfl, by cases h; rfl⟩
  ·replace h := bif_f h g4
   refine W_skip ?_
   obtain ⟨g1, g2, g3, h⟩ := gd3 h
   refine Vgs hT fN [] [] [0] ⟨[(4, kH 0)], [], [⟨.row, 5, 1, 4, .b [l0, 130, (UInt8.ofInt (Int.tdiv l1 256)), (UInt8.ofInt (Int.tmod l1 256))]⟩]⟩ (aP g1 (aP g2 (aP g3 aN))) ?_
   refine Vc [] [0] (rHead_R [l0, 130, (UInt8.ofInt (Int.tdiv l1 256)), (UInt8.ofInt (Int.tmod l1 256))]) (W_ret ?_)
   exact ⟨.inl rfl, by cases h; rfl⟩
def rEl_R (r : List UInt8) : S := ⟨[(4, kH 0)], [], [nb 5 r]⟩
def rEl_ct (n : Nat) (r : List UInt8) : Ct := ctc rU8.rd fun _ l0 => ctc (rB 5).rd fun _ l1 => ct0 fun H => ([rEl n l0 l1 = some r], shA H.length (kH 0), shH H.length [nb 5 r])
theorem rEl_ok (n : Nat) (r : List UInt8) : FnOk Try.prog Tr 24 (rEl_ct n r) := by
 refine fnok Try.func24 ?_
 refine HO_c rU8 fun l0 _ => HO_c (rB 5) fun l1 _ => HO_0 tabO_tva (rEl_R r) [.tmp 4] [0] 11 Try.func24 fun w hG h => ?_
 unfold rEl at h
 have hT := tabO_tva
 refine Vrs hT [0] ⟨[(0, kU l0), (1, kH 0)], [], [ob 5 l1]⟩ ?_
 obtain ⟨r8, g1, h⟩ := bind_some' h
 obtain ⟨g2, h⟩ := gd_some h
 refine Vgs hT (fT 3 (rHead_ok n r8) fN) [] [] [2] ⟨[(4, kH 0)], [], [nb 5 (r8 ++ l1)]⟩ (aP g1 (aP g2 aN)) ?_
 refine Vc [] [0] (rEl_R (r8 ++ l1)) (W_ret ?_)
 exact ⟨.inl rfl, by cases h; rfl⟩
def tup_R (r : Bool) : S := ⟨[(0, kB r)], [], []⟩
def tup_ct (n : Nat) (r : Bool) : Ct := ct0 fun H => ([tup n = some r], shA H.length (kB r), shH H.length [])
theorem tup_ok (n : Nat) (r : Bool) : FnOk Try.prog Tr 7 (tup_ct n r) := by
 refine fnok Try.func7 ?_
 refine HO_0 tabO_tva (tup_R r) [.tmp 0] [] 45 Try.func7 fun w hG h => ?_
 unfold tup at h
 have hT := tabO_tva
 refine Vrs hT [] ⟨[], [], []⟩ ?_
 obtain ⟨r7, g1, h⟩ := bind_some' h
 refine Vgs hT (fT 0 (wNew_ok n r7) fN) [] [] [0, 1, 2] ⟨[(1, kP 0 0)], [], [⟨.blk, 58, 1, 2, .c [.wh 1, .s (.v .nilIface)]⟩, ⟨.row, 64, 2, 1, .c [.s (.u8 0), .wh 2]⟩, ⟨.row, 5, 1, 0, .b []⟩]⟩ (aP g1 aN) ?_
 obtain ⟨r9, g2, h⟩ := bind_some' h
 refine Vgs hT (fT 1 (tNewR_ok n r9) fN) [] [] [0, 1, 2, 4, 5, 6] ⟨[(1, kP 0 0), (2, kP 3 0)], [], [⟨.blk, 58, 1, 2, .c [.wh 1, .s (.v .nilIface)]⟩, ⟨.row, 64, 2, 1, .c [.s (.u8 0), .wh 2]⟩, ⟨.row, 5, 1, 0, .b []⟩, ⟨.blk, 68, 1, 3, .c [.wh 4, .s (.k .i64 0), .wh 5]⟩, nb 5 r9.1, nz 3 r9.2]⟩ (aP g2 aN) ?_
 refine W_seq ?_
 refine Vrs hT [0, 1, 2, 3, 4, 5] ⟨[(1, kP 0 0), (2, kP 3 0), (15, kB false)], [], [⟨.blk, 58, 1, 2, .c [.wh 1, .s (.v .nilIface)]⟩, ⟨.row, 64, 2, 1, .c [.s (.u8 0), .wh 2]⟩, ⟨.row, 5, 1, 0, .b []⟩, ⟨.blk, 68, 1, 3, .c [.wh 4, .s (.k .i64 0), .wh 5]⟩, nb 5 r9.1, nz 3 r9.2]⟩ ?_
 refine Vi (false) (fun hb => by cases hb) (fun _ => ?_)
 refine W_skip ?_
 obtain ⟨r17, g3, h⟩ := bind_some' h
 refine Vgs hT (fM 1 (wOpen1_ok n r17) fN) [] [] [0, 6, 7, 8, 3, 4, 5] ⟨[(1, kP 0 0), (2, kP 4 0)], [], [⟨.blk, 58, 1, 2, .c [.wh 1, .s (.er 29 .i64 none)]⟩, ⟨.row, 64, 2, 2, .c [.s (.u8 0), .wh 2, .s (.u8 48), .wh 3]⟩, nb 5 [], ⟨.row, 5, 1, 0, .b []⟩, ⟨.blk, 68, 1, 3, .c [.wh 5, .s (.k .i64 0), .wh 6]⟩, nb 5 r9.1, nz 3 r9.2]⟩ (aP g3 aN) ?_
 obtain ⟨r20, g4, h⟩ := bind_some' h
 refine Vgs hT (fM 2 (wPut2_ok n r20) fN) [] [] [0, 8, 9, 10, 4, 5, 6] ⟨[(1, kP 0 0), (2, kP 4 0)], [], [⟨.blk, 58, 1, 2, .c [.wh 1, .s (.er 29 .i64 none)]⟩, ⟨.row, 64, 2, 2, .c [.s (.u8 0), .wh 2, .s (.u8 48), .wh 3]⟩, nb 5 [], nb 5 r20, ⟨.blk, 68, 1, 3, .c [.wh 5, .s (.k .i64 0), .wh 6]⟩, nb 5 r9.1, nz 3 r9.2]⟩ (aP g4 aN) ?_
 obtain ⟨r22, g5, h⟩ := bind_some' h
 refine Vgs hT (fM 1 (wClose2_ok n r22) fN) [] [] [0, 7, 8, 4, 5, 6] ⟨[(1, kP 0 0), (2, kP 3 0)], [], [⟨.blk, 58, 1, 2, .c [.wh 1, .s (.er 29 .i64 none)]⟩, ⟨.row, 64, 2, 1, .c [.s (.u8 0), .wh 2]⟩, nb 5 r22, ⟨.blk, 68, 1, 3, .c [.wh 4, .s (.k .i64 0), .wh 5]⟩, nb 5 r9.1, nz 3 r9.2]⟩ (aP g5 aN) ?_
 obtain ⟨r25, g6, h⟩ := bind_some' h
 refine Vgs hT (fM 1 (wBytes1_ok n r25) fN) [] [] [3, 4, 5, 8] ⟨[(2, kP 0 0), (3, kH 3), (4, kE 29 none)], [], [⟨.blk, 68, 1, 3, .c [.wh 1, .s (.k .i64 0), .wh 2]⟩, nb 5 r9.1, nz 3 r9.2, nb 5 r22]⟩ (aP g6 aN) ?_
 obtain ⟨r30, g7, h⟩ := bind_some' h
 refine Vgs hT (fM 1 (tTake_ok n r30) fN) [] [] [3] ⟨[(3, kH 0), (4, kE 29 none), (6, kE 29 r30.2.2)], [], [nb 5 r22]⟩ (aP g7 aN) ?_
 refine W_seq ?_
 rcases Bool.eq_false_or_eq_true (r22 == ([48, 3, 2, 1, 5] : List UInt8)) with g8 | g8
 ·replace h := bif_t h g8
  obtain ⟨g9, h⟩ := gd_some h
  refine Vg hT fN [(7, true)] [] [] ⟨[(0, kB (r30.2.2 == (some 2)))], [], []⟩ (aP g8 (aP g9 aN)) ?_
  refine Vc [] [] (tup_R (r30.2.2 == (some 2))) (W_ret ?_)
  exact ⟨.inl rfl, by cases h; rfl⟩
 ·replace h := bif_f h g8
  refine Vg hT fN [(7, false)] [] [] ⟨[(0, kB false)], [], []⟩ (aP g8 aN) ?_
  refine Vc [] [] (tup_R false) (W_ret ?_)
  exact ⟨.inl rfl, by cases h; rfl⟩
def lStays_l4_E (r26 : Bool) (r59 : List UInt8) (r94 : List UInt8) (r121 : Int × List UInt8 × Option Int) (r126 : Int × List UInt8 × Option Int) (l20_2 : List UInt8) (i25_2 : Int) : S := ⟨[(5, kB r26), (14, kE 29 none), (15, kH 0), (16, kB (r59 == r94)), (18, kH 1), (19, kE 29 none), (20, kH 2), (21, kE 29 r121.2.2), (23, kE 29 r126.2.2), (24, kB (r121.2.1 == r126.2.1)), (25, kI i25_2)], [], [nb 5 r94, nb 5 r59, ⟨.row, 5, 1, r121.2.1.length, .b l20_2⟩]⟩
abbrev lStays_l4_P (n : Nat) (r26 : Bool) (r59 : List UInt8) (r94 : List UInt8) (r121 : Int × List UInt8 × Option Int) (r126 : Int × List UInt8 × Option Int) (r : Bool) (fu : Nat) : S → Prop := fun s => ∃ (l20_2 : List UInt8), ∃ (i25_2 : Int), s = lStays_l4_E r26 r59 r94 r121 r126 l20_2 i25_2 ∧ lStays_l4 n r26 r59 r94 r121 r126 fu l20_2 i25_2 = some r
def lStays_l3_E (r26 : Bool) (r44 : List UInt8 × List Int) (r46 : List UInt8 × List Int) (r59 : List UInt8) (r94 : List UInt8) (l13_2 : List UInt8) (i17_2 : Int) : S := ⟨[(5, kB r26), (7, kP 0 0), (9, kP 3 0), (10, kP 6 0), (13, kH 9), (14, kE 29 none), (15, kH 10), (16, kB (r59 == r94)), (17, kI i17_2)], [], [⟨.blk, 58, 1, 2, .c [.wh 1, .s (.er 29 .i64 none)]⟩, ⟨.row, 64, 2, 1, .c [.s (.u8 0), .wh 2]⟩, nb 5 r59, ⟨.blk, 68, 1, 3, .c [.wh 4, .s (.k .i64 0), .wh 5]⟩, nb 5 r44.1, nz 3 r44.2, ⟨.blk, 68, 1, 3, .c [.wh 7, .s (.k .i64 0), .wh 8]⟩, nb 5 r46.1, nz 3 r46.2, ⟨.row, 5, 1, r59.length, .b l13_2⟩, nb 5 r94]⟩
abbrev lStays_l3_P (n : Nat) (r26 : Bool) (r44 : List UInt8 × List Int) (r46 : List UInt8 × List Int) (r59 : List UInt8) (r94 : List UInt8) (r : Bool) (fu : Nat) : S → Prop := fun s => ∃ (l13_2 : List UInt8), ∃ (i17_2 : Int), s = lStays_l3_E r26 r44 r46 r59 r94 l13_2 i17_2 ∧ lStays_l3 n r26 r44 r46 r59 r94 fu l13_2 i17_2 = some r
def lStays_l2_E (a0 : List UInt8) (a1 : List UInt8) (r26 : Bool) (r44 : List UInt8 × List Int) (r46 : List UInt8 × List Int) (r59 : List UInt8) (l8_2 : List UInt8) (i12_2 : Int) : S := ⟨[(0, kH 0), (5, kB r26), (7, kP 1 0), (8, kH 4), (9, kP 5 0), (10, kP 8 0), (12, kI i12_2)], [], [ob 5 a0, ⟨.blk, 58, 1, 2, .c [.wh 2, .s (.er 29 .i64 none)]⟩, ⟨.row, 64, 2, 1, .c [.s (.u8 0), .wh 3]⟩, nb 5 r59, ⟨.row, 5, 1, ([] ++ a1).length, .b l8_2⟩, ⟨.blk, 68, 1, 3, .c [.wh 6, .s (.k .i64 0), .wh 7]⟩, nb 5 r44.1, nz 3 r44.2, ⟨.blk, 68, 1, 3, .c [.wh 9, .s (.k .i64 0), .wh 10]⟩, nb 5 r46.1, nz 3 r46.2]⟩
abbrev lStays_l2_P (n : Nat) (a0 : List UInt8) (a1 : List UInt8) (r26 : Bool) (r44 : List UInt8 × List Int) (r46 : List UInt8 × List Int) (r59 : List UInt8) (r : Bool) (fu : Nat) : S → Prop := fun s => ∃ (l8_2 : List UInt8), ∃ (i12_2 : Int), s = lStays_l2_E a0 a1 r26 r44 r46 r59 l8_2 i12_2 ∧ lStays_l2 n a0 a1 r26 r44 r46 r59 fu l8_2 i12_2 = some r
def lStays_l1_E (a0 : List UInt8) (a1 : List UInt8) (r26 : Bool) (r44 : List UInt8 × List Int) (r46 : List UInt8 × List Int) (r59 : List UInt8) (l6_2 : List UInt8) (i11_2 : Int) : S := ⟨[(0, kH 0), (5, kB r26), (6, kH 1), (7, kP 2 0), (8, kH 5), (9, kP 6 0), (10, kP 9 0), (11, kI i11_2)], [], [ob 5 a0, ⟨.row, 5, 1, ([] ++ a0).length, .b l6_2⟩, ⟨.blk, 58, 1, 2, .c [.wh 3, .s (.er 29 .i64 none)]⟩, ⟨.row, 64, 2, 1, .c [.s (.u8 0), .wh 4]⟩, nb 5 r59, nb 5 ([] ++ a1), ⟨.blk, 68, 1, 3, .c [.wh 7, .s (.k .i64 0), .wh 8]⟩, nb 5 r44.1, nz 3 r44.2, ⟨.blk, 68, 1, 3, .c [.wh 10, .s (.k .i64 0), .wh 11]⟩, nb 5 r46.1, nz 3 r46.2]⟩
abbrev lStays_l1_P (n : Nat) (a0 : List UInt8) (a1 : List UInt8) (r26 : Bool) (r44 : List UInt8 × List Int) (r46 : List UInt8 × List Int) (r59 : List UInt8) (r : Bool) (fu : Nat) : S → Prop := fun s => ∃ (l6_2 : List UInt8), ∃ (i11_2 : Int), s = lStays_l1_E a0 a1 r26 r44 r46 r59 l6_2 i11_2 ∧ lStays_l1 n a0 a1 r26 r44 r46 r59 fu l6_2 i11_2 = some r
def lStays_R (r : Bool) : S := ⟨[(4, kB r)], [], []⟩
def lStays_ct (n : Nat) (r : Bool) : Ct := ctc (rB 5).rd fun _ l0 => ctc (rB 5).rd fun _ l1 => ct0 fun H => ([lStays n l0 l1 = some r], shA H.length (kB r), shH H.length [])
theorem lStays_ok (n : Nat) (r : Bool) : FnOk Try.prog Tr 5 (lStays_ct n r) := by
 refine fnok Try.func5 ?_
 refine HO_c (rB 5) fun l0 _ => HO_c (rB 5) fun l1 _ => HO_0 tabO_tva (lStays_R r) [.tmp 4] [] 177 Try.func5 fun w hG h => ?_
 unfold lStays at h
 have hT := tabO_tva
 refine Vrs hT [0, 1] ⟨[(0, kH 0), (1, kH 1)], [], [ob 5 l0, ob 5 l1]⟩ ?_
 obtain ⟨r26, g1, h⟩ := bind_some' h
 refine Vgs hT (fT 0 (tup_ok n r26) fN) [] [] [0, 1] ⟨[(0, kH 0), (1, kH 1), (5, kB r26)], [], [ob 5 l0, ob 5 l1]⟩ (aP g1 aN) ?_
 refine W_seq ?_
 refine W_seq ?_
 rcases Bool.eq_false_or_eq_true (decide ((300 : Int) < ((l0.length : Nat) : Int))) with g2 | g2
 ·replace h := bif_t h g2
  refine Vg hT fN [(3, true)] [] [0, 1] ⟨[(0, kH 0), (1, kH 1), (5, kB r26), (34, kB true)], [], [ob 5 l0, ob 5 l1]⟩ (aP g2 aN) ?_
  refine Vi (true) (fun _ => ?_) (fun hb => by cases hb)
  refine Vrs hT [] ⟨[(4, kB r26)], [], []⟩ ?_
  refine Vc [] [] (lStays_R r26) (W_ret ?_)
  exact ⟨.inl rfl, by cases h; rfl⟩
 ·replace h := bif_f h g2
  refine Vg hT fN [(3, false)] [] [0, 1] ⟨[(0, kH 0), (1, kH 1), (5, kB r26), (34, kB (decide ((1000 : Int) < ((l1.length : Nat) : Int))))], [], [ob 5 l0, ob 5 l1]⟩ (aP g2 aN) ?_
  refine Vi ((decide ((1000 : Int) < ((l1.length : Nat) : Int)))) (fun g42 => ?_) (fun g42 => ?_)
  ·replace h := bif_t h g42
   refine Vrs hT [] ⟨[(4, kB r26)], [], []⟩ ?_
   refine Vc [] [] (lStays_R r26) (W_ret ?_)
   exact ⟨.inl rfl, by cases h; rfl⟩
  ·replace h := bif_f h g42
   refine W_skip ?_
   obtain ⟨g3, h⟩ := gd_some h
   refine Vgs hT fN [] [] [0, 1, 3] ⟨[(0, kH 0), (1, kH 1), (5, kB r26), (6, kH 2)], [], [ob 5 l0, ob 5 l1, nb 5 ([] ++ l0)]⟩ (aP g3 aN) ?_
   obtain ⟨r39, g4, h⟩ := bind_some' h
   refine Vgs hT (fT 0 (wNew_ok n r39) fN) [] [] [0, 1, 2, 3, 4, 5] ⟨[(0, kH 0), (1, kH 1), (5, kB r26), (6, kH 2), (7, kP 3 0)], [], [ob 5 l0, ob 5 l1, nb 5 ([] ++ l0), ⟨.blk, 58, 1, 2, .c [.wh 4, .s (.v .nilIface)]⟩, ⟨.row, 64, 2, 1, .c [.s (.u8 0), .wh 5]⟩, ⟨.row, 5, 1, 0, .b []⟩]⟩ (aP g4 aN) ?_
   obtain ⟨g5, h⟩ := gd_some h
   refine Vgs hT fN [] [] [0, 1, 2, 3, 4, 5, 7] ⟨[(0, kH 0), (1, kH 1), (5, kB r26), (6, kH 2), (7, kP 3 0), (8, kH 6)], [], [ob 5 l0, ob 5 l1, nb 5 ([] ++ l0), ⟨.blk, 58, 1, 2, .c [.wh 4, .s (.v .nilIface)]⟩, ⟨.row, 64, 2, 1, .c [.s (.u8 0), .wh 5]⟩, ⟨.row, 5, 1, 0, .b []⟩, nb 5 ([] ++ l1)]⟩ (aP g5 aN) ?_
   obtain ⟨r44, g6, h⟩ := bind_some' h
   refine Vgs hT (fT 1 (tNewR_ok n r44) fN) [] [] [0, 1, 2, 3, 4, 5, 6, 7, 8, 9] ⟨[(0, kH 0), (1, kH 1), (5, kB r26), (6, kH 2), (7, kP 3 0), (8, kH 6), (9, kP 7 0)], [], [ob 5 l0, ob 5 l1, nb 5 ([] ++ l0), ⟨.blk, 58, 1, 2, .c [.wh 4, .s (.v .nilIface)]⟩, ⟨.row, 64, 2, 1, .c [.s (.u8 0), .wh 5]⟩, ⟨.row, 5, 1, 0, .b []⟩, nb 5 ([] ++ l1), ⟨.blk, 68, 1, 3, .c [.wh 8, .s (.k .i64 0), .wh 9]⟩, nb 5 r44.1, nz 3 r44.2]⟩ (aP g6 aN) ?_
   obtain ⟨r46, g7, h⟩ := bind_some' h
   refine Vgs hT (fT 1 (tNewR_ok n r46) fN) [] [] [0, 2, 3, 4, 5, 6, 7, 8, 9, 10, 11, 12] ⟨[(0, kH 0), (5, kB r26), (6, kH 1), (7, kP 2 0), (8, kH 5), (9, kP 6 0), (10, kP 9 0)], [], [ob 5 l0, nb 5 ([] ++ l0), ⟨.blk, 58, 1, 2, .c [.wh 3, .s (.v .nilIface)]⟩, ⟨.row, 64, 2, 1, .c [.s (.u8 0), .wh 4]⟩, ⟨.row, 5, 1, 0, .b []⟩, nb 5 ([] ++ l1), ⟨.blk, 68, 1, 3, .c [.wh 7, .s (.k .i64 0), .wh 8]⟩, nb 5 r44.1, nz 3 r44.2, ⟨.blk, 68, 1, 3, .c [.wh 10, .s (.k .i64 0), .wh 11]⟩, nb 5 r46.1, nz 3 r46.2]⟩ (aP g7 aN) ?_
   refine W_seq ?_
   refine Vrs hT [0, 1, 2, 3, 4, 5, 6, 7, 8, 9, 10, 11] ⟨[(0, kH 0), (5, kB r26), (6, kH 1), (7, kP 2 0), (8, kH 5), (9, kP 6 0), (10, kP 9 0), (56, kB false)], [], [ob 5 l0, nb 5 ([] ++ l0), ⟨.blk, 58, 1, 2, .c [.wh 3, .s (.v .nilIface)]⟩, ⟨.row, 64, 2, 1, .c [.s (.u8 0), .wh 4]⟩, ⟨.row, 5, 1, 0, .b []⟩, nb 5 ([] ++ l1), ⟨.blk, 68, 1, 3, .c [.wh 7, .s (.k .i64 0), .wh 8]⟩, nb 5 r44.1, nz 3 r44.2, ⟨.blk, 68, 1, 3, .c [.wh 10, .s (.k .i64 0), .wh 11]⟩, nb 5 r46.1, nz 3 r46.2]⟩ ?_
   refine Vi (false) (fun hb => by cases hb) (fun _ => ?_)
   refine W_skip ?_
   obtain ⟨r59, g8, h⟩ := bind_some' h
   refine Vgs hT (fM 2 (wPut1_ok n r59) fN) [] [] [0, 1, 2, 12, 13, 5, 6, 7, 8, 9, 10, 11] ⟨[(0, kH 0), (5, kB r26), (6, kH 1), (7, kP 2 0), (8, kH 5), (9, kP 6 0), (10, kP 9 0)], [], [ob 5 l0, nb 5 ([] ++ l0), ⟨.blk, 58, 1, 2, .c [.wh 3, .s (.er 29 .i64 none)]⟩, ⟨.row, 64, 2, 1, .c [.s (.u8 0), .wh 4]⟩, nb 5 r59, nb 5 ([] ++ l1), ⟨.blk, 68, 1, 3, .c [.wh 7, .s (.k .i64 0), .wh 8]⟩, nb 5 r44.1, nz 3 r44.2, ⟨.blk, 68, 1, 3, .c [.wh 10, .s (.k .i64 0), .wh 11]⟩, nb 5 r46.1, nz 3 r46.2]⟩ (aP g8 aN) ?_
   refine W_seq ?_
   refine Vrs hT [0, 1, 2, 3, 4, 5, 6, 7, 8, 9, 10, 11] ⟨[(0, kH 0), (5, kB r26), (6, kH 1), (7, kP 2 0), (8, kH 5), (9, kP 6 0), (10, kP 9 0), (11, kI 0)], [], [ob 5 l0, nb 5 ([] ++ l0), ⟨.blk, 58, 1, 2, .c [.wh 3, .s (.er 29 .i64 none)]⟩, ⟨.row, 64, 2, 1, .c [.s (.u8 0), .wh 4]⟩, nb 5 r59, nb 5 ([] ++ l1), ⟨.blk, 68, 1, 3, .c [.wh 7, .s (.k .i64 0), .wh 8]⟩, nb 5 r44.1, nz 3 r44.2, ⟨.blk, 68, 1, 3, .c [.wh 10, .s (.k .i64 0), .wh 11]⟩, nb 5 r46.1, nz 3 r46.2]⟩ ?_
   refine W_block ?_
   refine Vc [] [0, 1, 2, 3, 4, 5, 6, 7, 8, 9, 10, 11] (lStays_l1_E l0 l1 r26 r44 r46 r59 ([] ++ l0) 0) (W_lp ((lStays_l1_P n l0 l1 r26 r44 r46 r59 r)) n ⟨_, _, rfl, h⟩ ?_)
   rintro fu_l1 _ ⟨l6_2, i11_2, rfl, h⟩
   cases fu_l1 with
   | zero => cases h
   | succ fu_l1 =>
    refine ⟨fu_l1, rfl, ?_⟩
    rw [lStays_l1] at h
    refine W_seq ?_
    refine Vrs hT [0, 1, 2, 3, 4, 5, 6, 7, 8, 9, 10, 11] ⟨[(0, kH 0), (5, kB r26), (6, kH 1), (7, kP 2 0), (8, kH 5), (9, kP 6 0), (10, kP 9 0), (11, kI i11_2), (63, kB (decide (i11_2 < ((([] ++ l0).length : Nat) : Int))))], [], [ob 5 l0, ⟨.row, 5, 1, ([] ++ l0).length, .b l6_2⟩, ⟨.blk, 58, 1, 2, .c [.wh 3, .s (.er 29 .i64 none)]⟩, ⟨.row, 64, 2, 1, .c [.s (.u8 0), .wh 4]⟩, nb 5 r59, nb 5 ([] ++ l1), ⟨.blk, 68, 1, 3, .c [.wh 7, .s (.k .i64 0), .wh 8]⟩, nb 5 r44.1, nz 3 r44.2, ⟨.blk, 68, 1, 3, .c [.wh 10, .s (.k .i64 0), .wh 11]⟩, nb 5 r46.1, nz 3 r46.2]⟩ ?_
    refine Vi ((decide (i11_2 < ((([] ++ l0).length : Nat) : Int)))) (fun g41 => ?_) (fun g41 => ?_)
    ·replace h := bif_t h g41
     refine W_skip ?_
     refine W_seq ?_
     refine W_block ?_
     obtain ⟨g9, g10, g11, g12, h⟩ := gd4 h
     refine Vg hT fN [] [] [0, 1, 2, 3, 4, 5, 6, 7, 8, 9, 10, 11] ⟨[(0, kH 0), (5, kB r26), (6, kH 1), (7, kP 2 0), (8, kH 5), (9, kP 6 0), (10, kP 9 0), (11, kI i11_2)], [], [ob 5 l0, ⟨.row, 5, 1, ([] ++ l0).length, .b (l6_2.set i11_2.toNat ((l6_2.getD i11_2.toNat 0) + (1 : UInt8)))⟩, ⟨.blk, 58, 1, 2, .c [.wh 3, .s (.er 29 .i64 none)]⟩, ⟨.row, 64, 2, 1, .c [.s (.u8 0), .wh 4]⟩, nb 5 r59, nb 5 ([] ++ l1), ⟨.blk, 68, 1, 3, .c [.wh 7, .s (.k .i64 0), .wh 8]⟩, nb 5 r44.1, nz 3 r44.2, ⟨.blk, 68, 1, 3, .c [.wh 10, .s (.k .i64 0), .wh 11]⟩, nb 5 r46.1, nz 3 r46.2]⟩ (aP g9 (aP g10 (aP g11 (aP g12 aN)))) ?_
     obtain ⟨g13, h⟩ := gd_some h
     refine Vg hT fN [] [] [0, 1, 2, 3, 4, 5, 6, 7, 8, 9, 10, 11] (lStays_l1_E l0 l1 r26 r44 r46 r59 (l6_2.set i11_2.toNat ((l6_2.getD i11_2.toNat 0) + (1 : UInt8))) (i11_2 + 1)) (aP g13 aN) ?_
     exact ⟨_, _, rfl, h⟩
    ·replace h := bif_f h g41
     refine Vc [] [0, 2, 3, 4, 5, 6, 7, 8, 9, 10, 11] ⟨[(0, kH 0), (5, kB r26), (7, kP 1 0), (8, kH 4), (9, kP 5 0), (10, kP 8 0)], [], [ob 5 l0, ⟨.blk, 58, 1, 2, .c [.wh 2, .s (.er 29 .i64 none)]⟩, ⟨.row, 64, 2, 1, .c [.s (.u8 0), .wh 3]⟩, nb 5 r59, nb 5 ([] ++ l1), ⟨.blk, 68, 1, 3, .c [.wh 6, .s (.k .i64 0), .wh 7]⟩, nb 5 r44.1, nz 3 r44.2, ⟨.blk, 68, 1, 3, .c [.wh 9, .s (.k .i64 0), .wh 10]⟩, nb 5 r46.1, nz 3 r46.2]⟩ (W_exit ?_)
     refine W_seq ?_
     refine Vrs hT [0, 1, 2, 3, 4, 5, 6, 7, 8, 9, 10] ⟨[(0, kH 0), (5, kB r26), (7, kP 1 0), (8, kH 4), (9, kP 5 0), (10, kP 8 0), (12, kI 0)], [], [ob 5 l0, ⟨.blk, 58, 1, 2, .c [.wh 2, .s (.er 29 .i64 none)]⟩, ⟨.row, 64, 2, 1, .c [.s (.u8 0), .wh 3]⟩, nb 5 r59, nb 5 ([] ++ l1), ⟨.blk, 68, 1, 3, .c [.wh 6, .s (.k .i64 0), .wh 7]⟩, nb 5 r44.1, nz 3 r44.2, ⟨.blk, 68, 1, 3, .c [.wh 9, .s (.k .i64 0), .wh 10]⟩, nb 5 r46.1, nz 3 r46.2]⟩ ?_
     refine W_block ?_
     refine Vc [] [0, 1, 2, 3, 4, 5, 6, 7, 8, 9, 10] (lStays_l2_E l0 l1 r26 r44 r46 r59 ([] ++ l1) 0) (W_lp ((lStays_l2_P n l0 l1 r26 r44 r46 r59 r)) n ⟨_, _, rfl, h⟩ ?_)
     rintro fu_l2 _ ⟨l8_2, i12_2, rfl, h⟩
     cases fu_l2 with
     | zero => cases h
     | succ fu_l2 =>
      refine ⟨fu_l2, rfl, ?_⟩
      rw [lStays_l2] at h
      refine W_seq ?_
      refine Vrs hT [0, 1, 2, 3, 4, 5, 6, 7, 8, 9, 10] ⟨[(0, kH 0), (5, kB r26), (7, kP 1 0), (8, kH 4), (9, kP 5 0), (10, kP 8 0), (12, kI i12_2), (77, kB (decide (i12_2 < ((([] ++ l1).length : Nat) : Int))))], [], [ob 5 l0, ⟨.blk, 58, 1, 2, .c [.wh 2, .s (.er 29 .i64 none)]⟩, ⟨.row, 64, 2, 1, .c [.s (.u8 0), .wh 3]⟩, nb 5 r59, ⟨.row, 5, 1, ([] ++ l1).length, .b l8_2⟩, ⟨.blk, 68, 1, 3, .c [.wh 6, .s (.k .i64 0), .wh 7]⟩, nb 5 r44.1, nz 3 r44.2, ⟨.blk, 68, 1, 3, .c [.wh 9, .s (.k .i64 0), .wh 10]⟩, nb 5 r46.1, nz 3 r46.2]⟩ ?_
      refine Vi ((decide (i12_2 < ((([] ++ l1).length : Nat) : Int)))) (fun g40 => ?_) (fun g40 => ?_)
      ·replace h := bif_t h g40
       refine W_skip ?_
       refine W_seq ?_
       refine W_block ?_
       obtain ⟨g14, g15, g16, g17, h⟩ := gd4 h
       refine Vg hT fN [] [] [0, 1, 2, 3, 4, 5, 6, 7, 8, 9, 10] ⟨[(0, kH 0), (5, kB r26), (7, kP 1 0), (8, kH 4), (9, kP 5 0), (10, kP 8 0), (12, kI i12_2)], [], [ob 5 l0, ⟨.blk, 58, 1, 2, .c [.wh 2, .s (.er 29 .i64 none)]⟩, ⟨.row, 64, 2, 1, .c [.s (.u8 0), .wh 3]⟩, nb 5 r59, ⟨.row, 5, 1, ([] ++ l1).length, .b (l8_2.set i12_2.toNat ((l8_2.getD i12_2.toNat 0) + (1 : UInt8)))⟩, ⟨.blk, 68, 1, 3, .c [.wh 6, .s (.k .i64 0), .wh 7]⟩, nb 5 r44.1, nz 3 r44.2, ⟨.blk, 68, 1, 3, .c [.wh 9, .s (.k .i64 0), .wh 10]⟩, nb 5 r46.1, nz 3 r46.2]⟩ (aP g14 (aP g15 (aP g16 (aP g17 aN)))) ?_
       obtain ⟨g18, h⟩ := gd_some h
       refine Vg hT fN [] [] [0, 1, 2, 3, 4, 5, 6, 7, 8, 9, 10] (lStays_l2_E l0 l1 r26 r44 r46 r59 (l8_2.set i12_2.toNat ((l8_2.getD i12_2.toNat 0) + (1 : UInt8))) (i12_2 + 1)) (aP g18 aN) ?_
       exact ⟨_, _, rfl, h⟩
      ·replace h := bif_f h g40
       refine Vc [] [0, 1, 2, 3, 5, 6, 7, 8, 9, 10] ⟨[(0, kH 0), (5, kB r26), (7, kP 1 0), (9, kP 4 0), (10, kP 7 0)], [], [ob 5 l0, ⟨.blk, 58, 1, 2, .c [.wh 2, .s (.er 29 .i64 none)]⟩, ⟨.row, 64, 2, 1, .c [.s (.u8 0), .wh 3]⟩, nb 5 r59, ⟨.blk, 68, 1, 3, .c [.wh 5, .s (.k .i64 0), .wh 6]⟩, nb 5 r44.1, nz 3 r44.2, ⟨.blk, 68, 1, 3, .c [.wh 8, .s (.k .i64 0), .wh 9]⟩, nb 5 r46.1, nz 3 r46.2]⟩ (W_exit ?_)
       obtain ⟨r90, g19, h⟩ := bind_some' h
       refine Vgs hT (fM 1 (wBytes1_ok n r90) fN) [] [] [0, 1, 10, 11, 4, 5, 6, 7, 8, 9, 12] ⟨[(0, kH 0), (5, kB r26), (7, kP 1 0), (9, kP 4 0), (10, kP 7 0), (13, kH 10), (14, kE 29 none)], [], [ob 5 l0, ⟨.blk, 58, 1, 2, .c [.wh 2, .s (.er 29 .i64 none)]⟩, ⟨.row, 64, 2, 1, .c [.s (.u8 0), .wh 3]⟩, nb 5 r59, ⟨.blk, 68, 1, 3, .c [.wh 5, .s (.k .i64 0), .wh 6]⟩, nb 5 r44.1, nz 3 r44.2, ⟨.blk, 68, 1, 3, .c [.wh 8, .s (.k .i64 0), .wh 9]⟩, nb 5 r46.1, nz 3 r46.2, nb 5 r59]⟩ (aP g19 aN) ?_
       obtain ⟨r94, g20, h⟩ := bind_some' h
       refine Vgs hT (fT 1 (rEl_ok n r94) fN) [] [] [1, 2, 3, 4, 5, 6, 7, 8, 9, 10, 11] ⟨[(5, kB r26), (7, kP 0 0), (9, kP 3 0), (10, kP 6 0), (13, kH 9), (14, kE 29 none), (15, kH 10)], [], [⟨.blk, 58, 1, 2, .c [.wh 1, .s (.er 29 .i64 none)]⟩, ⟨.row, 64, 2, 1, .c [.s (.u8 0), .wh 2]⟩, nb 5 r59, ⟨.blk, 68, 1, 3, .c [.wh 4, .s (.k .i64 0), .wh 5]⟩, nb 5 r44.1, nz 3 r44.2, ⟨.blk, 68, 1, 3, .c [.wh 7, .s (.k .i64 0), .wh 8]⟩, nb 5 r46.1, nz 3 r46.2, nb 5 r59, nb 5 r94]⟩ (aP g20 aN) ?_
       refine Vrs hT [0, 1, 2, 3, 4, 5, 6, 7, 8, 9, 10] ⟨[(5, kB r26), (7, kP 0 0), (9, kP 3 0), (10, kP 6 0), (13, kH 9), (14, kE 29 none), (15, kH 10), (16, kB (r59 == r94))], [], [⟨.blk, 58, 1, 2, .c [.wh 1, .s (.er 29 .i64 none)]⟩, ⟨.row, 64, 2, 1, .c [.s (.u8 0), .wh 2]⟩, nb 5 r59, ⟨.blk, 68, 1, 3, .c [.wh 4, .s (.k .i64 0), .wh 5]⟩, nb 5 r44.1, nz 3 r44.2, ⟨.blk, 68, 1, 3, .c [.wh 7, .s (.k .i64 0), .wh 8]⟩, nb 5 r46.1, nz 3 r46.2, nb 5 r59, nb 5 r94]⟩ ?_
       refine W_seq ?_
       refine Vrs hT [0, 1, 2, 3, 4, 5, 6, 7, 8, 9, 10] ⟨[(5, kB r26), (7, kP 0 0), (9, kP 3 0), (10, kP 6 0), (13, kH 9), (14, kE 29 none), (15, kH 10), (16, kB (r59 == r94)), (17, kI 0)], [], [⟨.blk, 58, 1, 2, .c [.wh 1, .s (.er 29 .i64 none)]⟩, ⟨.row, 64, 2, 1, .c [.s (.u8 0), .wh 2]⟩, nb 5 r59, ⟨.blk, 68, 1, 3, .c [.wh 4, .s (.k .i64 0), .wh 5]⟩, nb 5 r44.1, nz 3 r44.2, ⟨.blk, 68, 1, 3, .c [.wh 7, .s (.k .i64 0), .wh 8]⟩, nb 5 r46.1, nz 3 r46.2, nb 5 r59, nb 5 r94]⟩ ?_
       refine W_block ?_
       refine Vc [] [0, 1, 2, 3, 4, 5, 6, 7, 8, 9, 10] (lStays_l3_E r26 r44 r46 r59 r94 r59 0) (W_lp ((lStays_l3_P n r26 r44 r46 r59 r94 r)) n ⟨_, _, rfl, h⟩ ?_)
       rintro fu_l3 _ ⟨l13_2, i17_2, rfl, h⟩
       cases fu_l3 with
       | zero => cases h
       | succ fu_l3 =>
        refine ⟨fu_l3, rfl, ?_⟩
        rw [lStays_l3] at h
        refine W_seq ?_
        refine Vrs hT [0, 1, 2, 3, 4, 5, 6, 7, 8, 9, 10] ⟨[(5, kB r26), (7, kP 0 0), (9, kP 3 0), (10, kP 6 0), (13, kH 9), (14, kE 29 none), (15, kH 10), (16, kB (r59 == r94)), (17, kI i17_2), (103, kB (decide (i17_2 < ((r59.length : Nat) : Int))))], [], [⟨.blk, 58, 1, 2, .c [.wh 1, .s (.er 29 .i64 none)]⟩, ⟨.row, 64, 2, 1, .c [.s (.u8 0), .wh 2]⟩, nb 5 r59, ⟨.blk, 68, 1, 3, .c [.wh 4, .s (.k .i64 0), .wh 5]⟩, nb 5 r44.1, nz 3 r44.2, ⟨.blk, 68, 1, 3, .c [.wh 7, .s (.k .i64 0), .wh 8]⟩, nb 5 r46.1, nz 3 r46.2, ⟨.row, 5, 1, r59.length, .b l13_2⟩, nb 5 r94]⟩ ?_
        refine Vi ((decide (i17_2 < ((r59.length : Nat) : Int)))) (fun g39 => ?_) (fun g39 => ?_)
        ·replace h := bif_t h g39
         refine W_skip ?_
         refine W_seq ?_
         refine W_block ?_
         obtain ⟨g21, g22, g23, g24, h⟩ := gd4 h
         refine Vg hT fN [] [] [0, 1, 2, 3, 4, 5, 6, 7, 8, 9, 10] ⟨[(5, kB r26), (7, kP 0 0), (9, kP 3 0), (10, kP 6 0), (13, kH 9), (14, kE 29 none), (15, kH 10), (16, kB (r59 == r94)), (17, kI i17_2)], [], [⟨.blk, 58, 1, 2, .c [.wh 1, .s (.er 29 .i64 none)]⟩, ⟨.row, 64, 2, 1, .c [.s (.u8 0), .wh 2]⟩, nb 5 r59, ⟨.blk, 68, 1, 3, .c [.wh 4, .s (.k .i64 0), .wh 5]⟩, nb 5 r44.1, nz 3 r44.2, ⟨.blk, 68, 1, 3, .c [.wh 7, .s (.k .i64 0), .wh 8]⟩, nb 5 r46.1, nz 3 r46.2, ⟨.row, 5, 1, r59.length, .b (l13_2.set i17_2.toNat ((l13_2.getD i17_2.toNat 0) + (1 : UInt8)))⟩, nb 5 r94]⟩ (aP g21 (aP g22 (aP g23 (aP g24 aN)))) ?_
         obtain ⟨g25, h⟩ := gd_some h
         refine Vg hT fN [] [] [0, 1, 2, 3, 4, 5, 6, 7, 8, 9, 10] (lStays_l3_E r26 r44 r46 r59 r94 (l13_2.set i17_2.toNat ((l13_2.getD i17_2.toNat 0) + (1 : UInt8))) (i17_2 + 1)) (aP g25 aN) ?_
         exact ⟨_, _, rfl, h⟩
        ·replace h := bif_f h g39
         refine Vc [] [0, 1, 2, 3, 4, 5, 6, 7, 8, 10] ⟨[(5, kB r26), (7, kP 0 0), (9, kP 3 0), (10, kP 6 0), (14, kE 29 none), (15, kH 9), (16, kB (r59 == r94))], [], [⟨.blk, 58, 1, 2, .c [.wh 1, .s (.er 29 .i64 none)]⟩, ⟨.row, 64, 2, 1, .c [.s (.u8 0), .wh 2]⟩, nb 5 r59, ⟨.blk, 68, 1, 3, .c [.wh 4, .s (.k .i64 0), .wh 5]⟩, nb 5 r44.1, nz 3 r44.2, ⟨.blk, 68, 1, 3, .c [.wh 7, .s (.k .i64 0), .wh 8]⟩, nb 5 r46.1, nz 3 r46.2, nb 5 r94]⟩ (W_exit ?_)
         obtain ⟨r116, g26, h⟩ := bind_some' h
         refine Vgs hT (fM 1 (wBytes1_ok n r116) fN) [] [] [3, 4, 5, 6, 7, 8, 9, 12] ⟨[(5, kB r26), (9, kP 0 0), (10, kP 3 0), (14, kE 29 none), (15, kH 6), (16, kB (r59 == r94)), (18, kH 7), (19, kE 29 none)], [], [⟨.blk, 68, 1, 3, .c [.wh 1, .s (.k .i64 0), .wh 2]⟩, nb 5 r44.1, nz 3 r44.2, ⟨.blk, 68, 1, 3, .c [.wh 4, .s (.k .i64 0), .wh 5]⟩, nb 5 r46.1, nz 3 r46.2, nb 5 r94, nb 5 r59]⟩ (aP g26 aN) ?_
         obtain ⟨r121, g27, h⟩ := bind_some' h
         refine Vgs hT (fM 1 (tWhole_ok n r121) fN) [] [] [3, 4, 5, 6, 7, 10] ⟨[(5, kB r26), (10, kP 0 0), (14, kE 29 none), (15, kH 3), (16, kB (r59 == r94)), (18, kH 4), (19, kE 29 none), (20, kH 5), (21, kE 29 r121.2.2)], [], [⟨.blk, 68, 1, 3, .c [.wh 1, .s (.k .i64 0), .wh 2]⟩, nb 5 r46.1, nz 3 r46.2, nb 5 r94, nb 5 r59, nb 5 r121.2.1]⟩ (aP g27 aN) ?_
         obtain ⟨r126, g28, h⟩ := bind_some' h
         refine Vgs hT (fM 1 (tWhole_ok n r126) fN) [] [] [3, 4, 5, 8] ⟨[(5, kB r26), (14, kE 29 none), (15, kH 0), (16, kB (r59 == r94)), (18, kH 1), (19, kE 29 none), (20, kH 2), (21, kE 29 r121.2.2), (22, kH 3), (23, kE 29 r126.2.2)], [], [nb 5 r94, nb 5 r59, nb 5 r121.2.1, nb 5 r126.2.1]⟩ (aP g28 aN) ?_
         refine Vrs hT [0, 1, 2] ⟨[(5, kB r26), (14, kE 29 none), (15, kH 0), (16, kB (r59 == r94)), (18, kH 1), (19, kE 29 none), (20, kH 2), (21, kE 29 r121.2.2), (23, kE 29 r126.2.2), (24, kB (r121.2.1 == r126.2.1))], [], [nb 5 r94, nb 5 r59, nb 5 r121.2.1]⟩ ?_
         refine W_seq ?_
         refine Vrs hT [0, 1, 2] ⟨[(5, kB r26), (14, kE 29 none), (15, kH 0), (16, kB (r59 == r94)), (18, kH 1), (19, kE 29 none), (20, kH 2), (21, kE 29 r121.2.2), (23, kE 29 r126.2.2), (24, kB (r121.2.1 == r126.2.1)), (25, kI 0)], [], [nb 5 r94, nb 5 r59, nb 5 r121.2.1]⟩ ?_
         refine W_block ?_
         refine Vc [] [0, 1, 2] (lStays_l4_E r26 r59 r94 r121 r126 r121.2.1 0) (W_lp ((lStays_l4_P n r26 r59 r94 r121 r126 r)) n ⟨_, _, rfl, h⟩ ?_)
         rintro fu_l4 _ ⟨l20_2, i25_2, rfl, h⟩
         cases fu_l4 with
         | zero => cases h
         | succ fu_l4 =>
          refine ⟨fu_l4, rfl, ?_⟩
          rw [lStays_l4] at h
          refine W_seq ?_
          refine Vrs hT [0, 1, 2] ⟨[(5, kB r26), (14, kE 29 none), (15, kH 0), (16, kB (r59 == r94)), (18, kH 1), (19, kE 29 none), (20, kH 2), (21, kE 29 r121.2.2), (23, kE 29 r126.2.2), (24, kB (r121.2.1 == r126.2.1)), (25, kI i25_2), (137, kB (decide (i25_2 < ((r121.2.1.length : Nat) : Int))))], [], [nb 5 r94, nb 5 r59, ⟨.row, 5, 1, r121.2.1.length, .b l20_2⟩]⟩ ?_
          refine Vi ((decide (i25_2 < ((r121.2.1.length : Nat) : Int)))) (fun g38 => ?_) (fun g38 => ?_)
          ·replace h := bif_t h g38
           refine W_skip ?_
           refine W_seq ?_
           refine W_block ?_
           obtain ⟨g29, g30, g31, g32, h⟩ := gd4 h
           refine Vg hT fN [] [] [0, 1, 2] ⟨[(5, kB r26), (14, kE 29 none), (15, kH 0), (16, kB (r59 == r94)), (18, kH 1), (19, kE 29 none), (20, kH 2), (21, kE 29 r121.2.2), (23, kE 29 r126.2.2), (24, kB (r121.2.1 == r126.2.1)), (25, kI i25_2)], [], [nb 5 r94, nb 5 r59, ⟨.row, 5, 1, r121.2.1.length, .b (l20_2.set i25_2.toNat ((l20_2.getD i25_2.toNat 0) + (1 : UInt8)))⟩]⟩ (aP g29 (aP g30 (aP g31 (aP g32 aN)))) ?_
           obtain ⟨g33, h⟩ := gd_some h
           refine Vg hT fN [] [] [0, 1, 2] (lStays_l4_E r26 r59 r94 r121 r126 (l20_2.set i25_2.toNat ((l20_2.getD i25_2.toNat 0) + (1 : UInt8))) (i25_2 + 1)) (aP g33 aN) ?_
           exact ⟨_, _, rfl, h⟩
          ·replace h := bif_f h g38
           refine Vc [] [0, 1] ⟨[(5, kB r26), (14, kE 29 none), (15, kH 0), (16, kB (r59 == r94)), (18, kH 1), (19, kE 29 none), (21, kE 29 r121.2.2), (23, kE 29 r126.2.2), (24, kB (r121.2.1 == r126.2.1))], [], [nb 5 r94, nb 5 r59]⟩ (W_exit ?_)
           refine W_seq ?_
           rcases Bool.eq_false_or_eq_true r26 with g34 | g34
           ·replace h := bif_t h g34
            rcases Bool.eq_false_or_eq_true (r59 == r94) with g35 | g35
            ·replace h := bif_t h g35
             rcases Bool.eq_false_or_eq_true (r59 == r94) with g36 | g36
             ·replace h := bif_t h g36
              rcases Bool.eq_false_or_eq_true (r121.2.1 == r126.2.1) with g37 | g37
              ·replace h := bif_t h g37
               refine Vd hT fN 27 [(1, true), (4, true), (19, true), (22, true)] [(170, false), (172, false), (174, false)] [] [] ⟨[(4, kB (((r121.2.2).isNone) == ((r126.2.2).isNone)))], [], []⟩ (aP g34 (aP g35 (aP g36 (aP g37 aN)))) ?_
               refine Vc [] [] (lStays_R (((r121.2.2).isNone) == ((r126.2.2).isNone))) (W_ret ?_)
               exact ⟨.inl rfl, by cases h; rfl⟩
              ·replace h := bif_f h g37
               refine Vd hT fN 27 [(1, true), (4, true), (19, true), (22, false)] [(170, false), (172, false), (174, false)] [] [] ⟨[(4, kB false)], [], []⟩ (aP g34 (aP g35 (aP g36 (aP g37 aN)))) ?_
               refine Vc [] [] (lStays_R false) (W_ret ?_)
               exact ⟨.inl rfl, by cases h; rfl⟩
             ·replace h := bif_f h g36
              refine Vd hT fN 27 [(1, true), (4, true), (19, false)] [(170, false), (172, false), (174, false)] [] [] ⟨[(4, kB false)], [], []⟩ (aP g34 (aP g35 (aP g36 aN))) ?_
              refine Vc [] [] (lStays_R false) (W_ret ?_)
              exact ⟨.inl rfl, by cases h; rfl⟩
            ·replace h := bif_f h g35
             refine Vd hT fN 27 [(1, true), (4, false)] [(170, false), (172, false), (174, false)] [] [] ⟨[(4, kB false)], [], []⟩ (aP g34 (aP g35 aN)) ?_
             refine Vc [] [] (lStays_R false) (W_ret ?_)
             exact ⟨.inl rfl, by cases h; rfl⟩
           ·replace h := bif_f h g34
            refine Vd hT fN 27 [(1, false)] [(170, false), (172, false), (174, false)] [] [] ⟨[(4, kB false)], [], []⟩ (aP g34 aN) ?_
            refine Vc [] [] (lStays_R false) (W_ret ?_)
            exact ⟨.inl rfl, by cases h; rfl⟩
end Go.Proofs.Ytcdljciflkefaaa
end
section
namespace Go.Sx
open Go Go.RowKit Go.Ch Go.Proofs.Ytcdljciflkefaaa
theorem mk_all : ∀ i : Fin 256, ((UInt8.ofNat i.1 &&& 31) != 31) = ((UInt8.ofNat i.1 % 32) != 31) := by decide +kernel
theorem mk_eq (x : UInt8) : ((x &&& 31) != 31) = ((x % 32) != 31) := by simpa using mk_all ⟨x.toNat, x.toNat_lt⟩
theorem tvalid_is (n : Nat) (x : UInt8) : tvalid n x = some (x % 32 != 31) := by unfold tvalid; rw [mk_eq]
theorem ofInt_mod (x : Int) : UInt8.ofInt (x % 256) = UInt8.ofInt x := by
 unfold UInt8.ofInt; congr 2; omega
def hdF (m : UInt8) (k : Int) : List UInt8 := bif decide (k < 128) then [m, UInt8.ofInt k] else bif decide (k < 256) then [m, 129, UInt8.ofInt k] else [m, 130, UInt8.ofInt (k / 256), UInt8.ofInt k]
theorem hdF_len (m : UInt8) (k : Int) : (hdF m k).length ≤ 4 := by
 unfold hdF; cases decide (k < 128) with
 | true => simp
 | false => cases decide (k < 256) with
  | true => simp
  | false => simp
theorem tHead_is (n : Nat) {m : UInt8} {k : Int} (hm : (m % 32 != 31) = true) (h0 : 0 ≤ k) (h1 : k ≤ 65535) : tHead n m k = some (hdF m k, none) := by
 unfold tHead hdF
 rw [tvalid_is, Option.bind_some, ite_f (by rw [hm]; rfl), ite_f (decide_eq_false (by omega)), ite_f (decide_eq_false (by omega))]
 cases decide (k < 128) with
 | true => rfl
 | false => cases decide (k < 256) with
  | true => rfl
  | false => simp only [cond_false]; rw [gd_pos (by decide), gd_pos (by decide)]; rfl
theorem rHead_is (n : Nat) {m : UInt8} {k : Int} (h0 : 0 ≤ k) (h1 : k ≤ 9223372036854775807) : rHead n m k = some (hdF m k) := by
 unfold rHead hdF
 cases decide (k < 128) with
 | true => rfl
 | false => cases decide (k < 256) with
  | true => rfl
  | false =>
   simp only [cond_false]
   have e : Int.tdiv k 256 = k / 256 := Int.tdiv_eq_ediv_of_nonneg h0
   have e2 : Int.tmod k 256 = k % 256 := Int.tmod_eq_emod_of_nonneg h0
   rw [gd_pos (by decide), e, e2, gd_pos (okI64 (by omega) (by omega)), gd_pos (by decide), ofInt_mod]
theorem rEl_is (n : Nat) (m : UInt8) {b : List UInt8} (h : b.length ≤ 1000000) : rEl n m b = some (hdF m (b.length : Int) ++ b) := by
 unfold rEl
 have := hdF_len m (b.length : Int)
 rw [rHead_is n (by omega) (by omega), Option.bind_some, gd_pos (by unfold rmB; omega)]
theorem tup_is : tup 1100 = some true := by decide +kernel
theorem u8lt (x : UInt8) : x.toNat < 256 := x.toNat_lt
theorem bor8 {i : Int} {x : Nat} (hx : x < 256) (h1 : -9223372036854775808 ≤ i * 256) (h2 : i * 256 + x < 9223372036854775808) : bitI .or .i64 (i * 2 ^ 8) (x : Int) = i * 256 + x := by
 have e : (i * 2 ^ 8 : Int) = i * 256 := by rfl
 rw [e]
 unfold bitI
 show IntKind.i64.wrap (((BitVec.ofInt 64 (i * 256) ||| BitVec.ofInt 64 (x : Int)).toNat : Nat) : Int) = _
 have hX : (BitVec.ofInt 64 (x : Int)).toNat = x := by rw [BitVec.toNat_ofInt]; omega
 have hI : (BitVec.ofInt 64 (i * 256)).toNat = (i % 2 ^ 56).toNat * 256 := by rw [BitVec.toNat_ofInt]; omega
 have ho : (BitVec.ofInt 64 (i * 256) ||| BitVec.ofInt 64 (x : Int)).toNat = (i % 2 ^ 56).toNat * 256 + x := by
  rw [BitVec.toNat_or, hX, hI]
  have := Nat.shiftLeft_add_eq_or_of_lt (i := 8) (show x < 2 ^ 8 from hx) (i % 2 ^ 56).toNat
  rw [Nat.shiftLeft_eq] at this
  exact this.symm
 rw [ho]
 unfold IntKind.wrap
 simp [IntKind.bits, IntKind.signed]
 omega
def hdR (b : List UInt8) (r : Int × Int × Bool) : Prop := r.2.2 = true → 2 ≤ r.1 ∧ 0 ≤ r.2.1 ∧ r.1 + r.2.1 ≤ (b.length : Int)
theorem thead_j1_is (n : Nat) {b : List UInt8} (hb : b.length ≤ 1000000) {i k : Int} (hi : 2 ≤ i) (hi2 : i ≤ (b.length : Int)) (hk : 0 ≤ k) : ∃ r, thead_j1 n b i k = some r ∧ hdR b r := by
 unfold thead_j1
 rw [gd_pos (okI64 (by omega) (by omega))]
 exact ⟨_, rfl, fun h => ⟨hi, hk, by have := of_decide_eq_true h; show i + k ≤ _; omega⟩⟩
theorem thead_l1_is (n : Nat) {b : List UInt8} (hb : b.length ≤ 1000000) (k : Nat) (hk : (((b.getD 1 0).toNat : Nat) : Int) - 128 = (k : Int)) (hk1 : 1 ≤ k) (hk2 : k ≤ 2) (hl : 2 + k ≤ b.length) :
  ∀ (fu j : Nat) (v : Int), k < j + fu → j ≤ k → 0 ≤ v → v < 256 ^ j → ∃ r, thead_l1 n b fu v (j : Int) = some r ∧ hdR b r
 | 0, j, v, h, h1, _, _ => by omega
 | fu + 1, j, v, h, h1, hv, hv2 => by
  rw [thead_l1]
  simp only [hk]
  have e : (((((2 + (k : Int)).toNat) - 2 : Nat)) : Int) = (k : Int) := by omega
  simp only [e]
  by_cases hj : j < k
  ·have hv3 : v ≤ 256 := by
    have : j = 0 ∨ j = 1 := by omega
    rcases this with rfl | rfl
    ·simp at hv2; omega
    ·simp at hv2; omega
   rw [ite_t (decide_eq_true (by omega)), gd_pos (by omega), gd_pos (by omega), gd_pos (by decide), gd_pos (by decide), gd_pos (okI64 (by omega) (by omega)), gd_pos (okI64 (by omega) (by omega)), bor8 (u8lt _) (by omega) (by have := u8lt (((b.drop 2).take ((2 + (k : Int)).toNat - 2)).getD ((j : Int)).toNat 0); omega)]
   have hx := u8lt (((b.drop 2).take ((2 + (k : Int)).toNat - 2)).getD ((j : Int)).toNat 0)
   refine thead_l1_is n hb k hk hk1 hk2 hl fu (j + 1) _ (by omega) (by omega) (by omega) ?_
   rw [Int.pow_succ]; omega
  ·rw [ite_f (decide_eq_false (by omega))]
   cases decide (v < (128 : Int)) with
   | true => exact ⟨_, rfl, fun h => absurd h Bool.false_ne_true⟩
   | false =>
    simp only [cond_false]
    cases ((k : Int) == 2) with
    | false => exact thead_j1_is n hb (by omega) (by omega) hv
    | true =>
     cases decide (v < (256 : Int)) with
     | true => exact ⟨_, rfl, fun h => absurd h Bool.false_ne_true⟩
     | false => exact thead_j1_is n hb (by omega) (by omega) hv
theorem thead_is {n : Nat} (hn : 3 ≤ n) {b : List UInt8} (hb : b.length ≤ 1000000) : ∃ r, thead n b = some r ∧ hdR b r := by
 have no : ∃ r, some ((0, 0, false) : Int × Int × Bool) = some r ∧ hdR b r := ⟨_, rfl, fun h => absurd h Bool.false_ne_true⟩
 unfold thead
 by_cases h2 : (b.length : Int) < 2
 ·rw [ite_t (decide_eq_true h2)]; exact no
 ·rw [ite_f (decide_eq_false h2), gd_pos (by omega), gd_pos (by omega), tvalid_is, Option.bind_some]
  cases (b.getD 0 0 % 32 != 31) with
  | false => exact no
  | true =>
   simp only [Bool.not_true, cond_false]
   have hx := u8lt (b.getD 1 0)
   rw [gd_pos (by omega), gd_pos (by omega)]
   by_cases h8 : (128 : Int) ≤ (((b.getD 1 0).toNat : Nat) : Int)
   ·rw [ite_t (decide_eq_true h8), gd_pos (okI64 (by omega) (by omega))]
    by_cases ha : ((((b.getD 1 0).toNat : Nat) : Int) - 128) < 1
    ·rw [ite_t (decide_eq_true ha)]; exact no
    ·rw [ite_f (decide_eq_false ha)]
     by_cases hc : (2 : Int) < ((((b.getD 1 0).toNat : Nat) : Int) - 128)
     ·rw [ite_t (decide_eq_true hc)]; exact no
     ·rw [ite_f (decide_eq_false hc), gd_pos (okI64 (by omega) (by omega))]
      by_cases hd : ((b.length : Nat) : Int) < (2 + ((((b.getD 1 0).toNat : Nat) : Int) - 128))
      ·rw [ite_t (decide_eq_true hd)]; exact no
      ·rw [ite_f (decide_eq_false hd), gd_pos (okI64 (by omega) (by omega)), gd_pos (by omega), gd_pos (by omega), gd_pos (by omega)]
       exact thead_l1_is n hb ((b.getD 1 0).toNat - 128) (by omega) (by omega) (by omega) (by omega) n 0 0 (by omega) (by omega) (by omega) (by simp)
   ·rw [ite_f (decide_eq_false h8)]
    exact thead_j1_is n hb (by omega) (by omega) (by omega)
theorem tleft_is (n : Nat) (b : List UInt8) (hb : b.length ≤ 1000000) : tleft n b 0 [(b.length : Int)] = some (0, b.length) := by
 unfold tleft
 rw [gd_pos (okI64 (by simp) (by simp)), gd_pos (by simp), gd_pos (by simp), gd_pos (by omega), gd_pos (by simp), gd_pos (by simp)]
 simp
theorem tWhole_is {n : Nat} (hn : 3 ≤ n) (b : List UInt8) (hb : b.length ≤ 1000000) : ∃ r, tWhole n b 0 [(b.length : Int)] = some r ∧ r.2.1.length ≤ b.length := by
 unfold tWhole
 rw [tleft_is n b hb, Option.bind_some]
 simp only []
 cases ((b.length : Int) == 0) with
 | true => exact ⟨_, rfl, Nat.zero_le _⟩
 | false =>
  simp only [cond_false]
  obtain ⟨r, e, hr⟩ := thead_is (n := n) hn (b := (b.drop 0).take b.length) (by simp; omega)
  rw [e, Option.bind_some]
  have hl : ((b.drop 0).take b.length).length = b.length := by simp
  unfold hdR at hr; rw [hl] at hr
  cases h : r.2.2 with
  | false => exact ⟨_, rfl, Nat.zero_le _⟩
  | true =>
   have := hr h
   simp only [Bool.not_true, cond_false]
   rw [gd_pos (okI64 (by omega) (by omega)), gd_pos (okI64 (by omega) (by omega)), gd_pos (okI64 (by omega) (by omega)), gd_pos (by omega), gd_pos (by omega), gd_pos (by simp; omega)]
   exact ⟨_, rfl, by simp; omega⟩
theorem bWh (n : Nat) (l : List UInt8) (h : l.length ≤ 1000000) : wBytes1 n 0 l = some () := by
 unfold wBytes1; rw [gd_pos (by decide), gd_pos (by decide), gd_pos (by decide), gd_pos (by omega)]
theorem wPut1_is {n : Nat} {b : List UInt8} (hb : b.length ≤ 300) : wPut1 n 0 [] 4 b = some (hdF 4 (b.length : Int) ++ b) := by
 have := hdF_len 4 (b.length : Int)
 unfold wPut1 wadd1
 rw [tvalid_is, Option.bind_some, ite_f (by decide), show tisW n 4 = some false from rfl, Option.bind_some, ite_f (by rfl), tHead_is n (by decide) (by omega) (by omega), Option.bind_some, ite_f (by rfl)]
 rw [gd_pos (by decide), gd_pos (by decide), gd_pos (by decide), gd_pos (by decide), gd_pos (by unfold rmB; simp; omega), gd_pos (by unfold rmB; simp; omega), gd_pos (by decide), Option.bind_some, List.nil_append]
theorem s4 (n : Nat) (A : Bool) (w1 w2 : List UInt8) (r : Int × List UInt8 × Option Int) (hA : A = true) (hw : w1 = w2) (hr : r.2.1.length ≤ 1000000) : ∀ (fu j : Nat) (l : List UInt8), r.2.1.length < j + fu → j ≤ r.2.1.length → lStays_l4 n A w1 w2 r r fu l (j : Int) = some true
 | 0, j, l, h, h1 => by omega
 | fu + 1, j, l, h, h1 => by
  rw [lStays_l4]
  by_cases hj : j < r.2.1.length
  ·rw [ite_t (decide_eq_true (by omega)), gd_pos (by omega), gd_pos (by omega), gd_pos (by omega), gd_pos (by omega), gd_pos (okI64 (by omega) (by omega))]
   exact s4 n A w1 w2 r hA hw hr fu (j + 1) _ (by omega) hj
  ·rw [ite_f (decide_eq_false (by omega)), hA, hw]; simp
theorem s3 (n : Nat) (A : Bool) (b : List UInt8) (w1 w2 : List UInt8) (hA : A = true) (hw : w1 = w2) (hb : b.length ≤ 1000) (hn : 1001 < n) (hx : w1.length ≤ 1000) : ∀ (fu j : Nat) (l : List UInt8), w1.length < j + fu → j ≤ w1.length → lStays_l3 n A (b, [(b.length : Int)]) (b, [(b.length : Int)]) w1 w2 fu l (j : Int) = some true
 | 0, j, l, h, h1 => by omega
 | fu + 1, j, l, h, h1 => by
  rw [lStays_l3]
  by_cases hj : j < w1.length
  ·rw [ite_t (decide_eq_true (by omega)), gd_pos (by omega), gd_pos (by omega), gd_pos (by omega), gd_pos (by omega), gd_pos (okI64 (by omega) (by omega))]
   exact s3 n A b w1 w2 hA hw hb hn hx fu (j + 1) _ (by omega) hj
  ·rw [ite_f (decide_eq_false (by omega)), bWh n w1 (by omega), Option.bind_some]
   simp only []
   obtain ⟨r, e, hr⟩ := tWhole_is (n := n) (by omega) b (by omega)
   rw [e, Option.bind_some, Option.bind_some]
   exact s4 n A w1 w2 r hA hw (by omega) n 0 _ (by omega) (by omega)
theorem s2 (n : Nat) (A : Bool) (a b : List UInt8) (w1 : List UInt8) (hA : A = true) (hw : w1 = hdF 4 (a.length : Int) ++ a) (ha : a.length ≤ 300) (hb : b.length ≤ 1000) (hn : 1001 < n) : ∀ (fu j : Nat) (l : List UInt8), b.length < j + fu → j ≤ b.length → lStays_l2 n a b A (b, [(b.length : Int)]) (b, [(b.length : Int)]) w1 fu l (j : Int) = some true
 | 0, j, l, h, h1 => by omega
 | fu + 1, j, l, h, h1 => by
  have hd := hdF_len 4 (a.length : Int)
  rw [lStays_l2]
  simp only [List.nil_append]
  by_cases hj : j < b.length
  ·rw [ite_t (decide_eq_true (by omega)), gd_pos (by omega), gd_pos (by omega), gd_pos (by omega), gd_pos (by omega), gd_pos (okI64 (by omega) (by omega))]
   exact s2 n A a b w1 hA hw ha hb hn fu (j + 1) _ (by omega) hj
  ·have hx : w1.length ≤ 1000 := by rw [hw]; simp; omega
   rw [ite_f (decide_eq_false (by omega)), bWh n w1 (by omega), Option.bind_some, rEl_is n 4 (by omega), Option.bind_some]
   exact s3 n A b w1 _ hA hw hb hn hx n 0 _ (by omega) (by omega)
theorem s1 (n : Nat) (A : Bool) (a b : List UInt8) (w1 : List UInt8) (hA : A = true) (hw : w1 = hdF 4 (a.length : Int) ++ a) (ha : a.length ≤ 300) (hb : b.length ≤ 1000) (hn : 1001 < n) : ∀ (fu j : Nat) (l : List UInt8), a.length < j + fu → j ≤ a.length → lStays_l1 n a b A (b, [(b.length : Int)]) (b, [(b.length : Int)]) w1 fu l (j : Int) = some true
 | 0, j, l, h, h1 => by omega
 | fu + 1, j, l, h, h1 => by
  rw [lStays_l1]
  simp only [List.nil_append]
  by_cases hj : j < a.length
  ·rw [ite_t (decide_eq_true (by omega)), gd_pos (by omega), gd_pos (by omega), gd_pos (by omega), gd_pos (by omega), gd_pos (okI64 (by omega) (by omega))]
   exact s1 n A a b w1 hA hw ha hb hn fu (j + 1) _ (by omega) hj
  ·rw [ite_f (decide_eq_false (by omega))]
   exact s2 n A a b w1 hA hw ha hb hn n 0 _ (by omega) (by omega)
theorem lStays_is (a b : List UInt8) : lStays 1100 a b = some true := by
 unfold lStays
 rw [tup_is, Option.bind_some]
 by_cases h1 : a.length ≤ 300
 ·rw [ite_f (decide_eq_false (by omega))]
  by_cases h2 : b.length ≤ 1000
  ·have hN : tNewR 1100 b = some (b, [(b.length : Int)]) := by unfold tNewR; rw [gd_pos (by omega)]
   rw [ite_f (decide_eq_false (by omega)), gd_pos (by unfold rmB; omega), show wNew 1100 = some () from rfl, Option.bind_some, gd_pos (by unfold rmB; omega)]
   simp only [List.nil_append]
   rw [hN, Option.bind_some, Option.bind_some, wPut1_is h1, Option.bind_some]
   exact s1 1100 true a b _ rfl rfl h1 h2 (by omega) 1100 0 _ (by omega) (by omega)
  ·rw [ite_t (decide_eq_true (by omega))]
 ·rw [ite_t (decide_eq_true (by omega))]
end Go.Sx
end
section
namespace Go.Sx
open Go Go.RowKit Go.Ch Go.Proofs.Ytcdljciflkefaaa
end Go.Sx
namespace Go.Proofs.Ytcdljciflkefaaa
open Go.RowKit Go.Ch Go.Sx
theorem tlvStays_c (w : World) (B0 : Nat) (v0 : Value) (l0 : List UInt8) (hv0 : Sl w B0 v0 (l0.map bU)) (B1 : Nat) (v1 : Value) (l1 : List UInt8) (hv1 : Sl w B1 v1 (l1.map bU)) :
  Calls Try.prog 5 #[v0, v1] w (Ret fun v' w' => Ext w w' ∧ v' = .bool true) := by
 obtain ⟨p0, a0, b0⟩ := in_b hv0 5
 obtain ⟨p1, a1, b1⟩ := in_b hv1 5
 exact law_of (lStays_ok 1100 true) (args := [.c (.wh 0), .c (.wh 1)]) (H := [⟨.ro false, 5, 1, l0.length, .b l0⟩, ⟨.ro false, 5, 1, l1.length, .b l1⟩]) (ρ := plL [p0, p1]) (vals := [v0, v1]) rfl (allP_cons.2 ⟨(lStays_is l0 l1), allP_nil⟩) trivial (hpL (ps := [p0, p1]) (F2.cons b0 (F2.cons b1 F2.nil))) (F2.cons a0 (F2.cons a1 F2.nil))
end Go.Proofs.Ytcdljciflkefaaa
end
