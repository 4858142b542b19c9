import Derived.Test.YthichmclbiggmaaDoorZ4
import Derived.Test.YthichmclbiggmaaDoorProg
set_option linter.unusedVariables false
set_option linter.unusedSimpArgs false
section
namespace Go.Proofs.YthichmclbiggmaaDoor
open Go.RowKit Go.Ch Go.Sx
def tabL_dc : List (TypeId × Ti) := [(3, ⟨.int .i64, 1, 8, true, some [.int .i64]⟩),
 (5, ⟨.int .u8, 1, 1, true, some [.int .u8]⟩),
 (9, ⟨.str, 1, 16, true, some [.str]⟩),
 (23, ⟨.sl 55, 1, 24, false, some [.nils]⟩),
 (25, ⟨.st [(23, 0), (23, 1), (23, 2)], 3, 72, false, some [.nils, .nils, .nils]⟩),
 (26, ⟨.sl 5, 1, 24, false, some [.nils]⟩),
 (31, ⟨.ifc, 1, 16, true, some [.ifc]⟩),
 (34, ⟨.int .i64, 1, 8, true, some [.int .i64]⟩),
 (40, ⟨.st [(23, 0), (23, 1)], 2, 48, false, some [.nils, .nils]⟩),
 (55, ⟨.int .u32, 1, 4, true, some [.int .u32]⟩),
 (90, ⟨.sl 26, 1, 24, false, some [.nils]⟩)]
def tab_dc : Tab := fun t => (tabL_dc).lookup t
theorem tabE_dc : (tabL_dc.map fun p => tiOf Tryd.prog p.1) = tabL_dc.map fun p => some p.2 := by kernel_rfl
theorem tabO_dc : TabOk Tryd.prog tab_dc := tab_of tabE_dc
def pRead_l1 (n : Nat) (l0_4 : List UInt8) (m0_4 : Nat) : Nat → List UInt32 → Int → Option (List UInt32 × Nat × Option Int)
 | 0, _, _ => none
 | fu_l1 + 1, w4_1, i30_1 =>
 bif (decide (i30_1 < ((m0_4 : Nat) : Int))) then
 gd (0 ≤ i30_1) <|
 gd (i30_1 < ((m0_4 : Nat) : Int)) <|
 gd (okI .i64 (((m0_4 : Nat) : Int) - 1)) <|
 gd (okI .i64 ((((m0_4 : Nat) : Int) - 1) - i30_1)) <|
 gd ((4 : Int) ≠ 0) <|
 gd (okI .i64 (Int.tdiv ((((m0_4 : Nat) : Int) - 1) - i30_1) 4)) <|
 gd (0 ≤ (Int.tdiv ((((m0_4 : Nat) : Int) - 1) - i30_1) 4)) <|
 gd ((Int.tdiv ((((m0_4 : Nat) : Int) - 1) - i30_1) 4) < (((Int.tdiv (((m0_4 : Nat) : Int) + 3) 4).toNat : Nat) : Int)) <|
 gd ((4 : Int) ≠ 0) <|
 gd (okI .i64 (8 * (Int.tmod ((((m0_4 : Nat) : Int) - 1) - i30_1) 4))) <|
 gd (0 ≤ (8 * (Int.tmod ((((m0_4 : Nat) : Int) - 1) - i30_1) 4))) <|
 gd (0 ≤ (Int.tdiv ((((m0_4 : Nat) : Int) - 1) - i30_1) 4)) <|
 gd ((Int.tdiv ((((m0_4 : Nat) : Int) - 1) - i30_1) 4) < (((Int.tdiv (((m0_4 : Nat) : Int) + 3) 4).toNat : Nat) : Int)) <|
 gd (okI .i64 (i30_1 + 1)) <|
 (pRead_l1 n l0_4 m0_4 fu_l1) (w4_1.set ((Int.tdiv ((((m0_4 : Nat) : Int) - 1) - i30_1) 4).toNat) ((w4_1.getD ((Int.tdiv ((((m0_4 : Nat) : Int) - 1) - i30_1) 4).toNat) 0) ||| (shl32 ((l0_4.getD i30_1.toNat 0).toUInt32) (8 * (Int.tmod ((((m0_4 : Nat) : Int) - 1) - i30_1) 4))))) (i30_1 + 1)
 else
 some (w4_1, (Int.tdiv (((m0_4 : Nat) : Int) + 3) 4).toNat, none)
def pRead_j1 (n : Nat) (l0_4 : List UInt8) (m0_4 : Nat) : Option (List UInt32 × Nat × Option Int) :=
 bif (decide ((256 : Int) < ((m0_4 : Nat) : Int))) then
 some ([], 0, (some 4))
 else
 gd (okI .i64 (((m0_4 : Nat) : Int) + 3)) <|
 gd ((4 : Int) ≠ 0) <|
 gd (okI .i64 (Int.tdiv (((m0_4 : Nat) : Int) + 3) 4)) <|
 gd (0 ≤ (Int.tdiv (((m0_4 : Nat) : Int) + 3) 4)) <|
 gd ((Int.tdiv (((m0_4 : Nat) : Int) + 3) 4) = (Int.tdiv (((m0_4 : Nat) : Int) + 3) 4)) <|
 gd (rmB ((Int.tdiv (((m0_4 : Nat) : Int) + 3) 4).toNat) 4) <|
 pRead_l1 n l0_4 m0_4 n (List.replicate ((Int.tdiv (((m0_4 : Nat) : Int) + 3) 4).toNat) 0) 0
def pRead_l2 (n : Nat) : Nat → List UInt8 → Nat → Option (List UInt32 × Nat × Option Int)
 | 0, _, _ => none
 | fu_l2 + 1, l0_5, m0_5 =>
 bif (decide ((0 : Int) < ((m0_5 : Nat) : Int))) then
 gd (0 ≤ (0 : Int)) <|
 gd ((0 : Int) < ((m0_5 : Nat) : Int)) <|
 bif ((l0_5.getD 0 0) == 0) then
 gd (0 ≤ (1 : Int)) <|
 gd ((1 : Int) ≤ ((m0_5 : Nat) : Int)) <|
 (pRead_l2 n fu_l2) ((l0_5.drop 1).take (m0_5 - 1)) (m0_5 - 1)
 else
 pRead_j1 n l0_5 m0_5
 else
 pRead_j1 n l0_5 m0_5
def pRead (n : Nat) (a0 : List UInt8) : Option (List UInt32 × Nat × Option Int) :=
 pRead_l2 n n a0 a0.length
def kpower (n : Nat) (a0 : List UInt8) (a1 : List UInt32) (a2 : List UInt32) : Option (List UInt8 × Nat × Bool) :=
 (ksize n a2).bind fun r14 =>
 (pRead n a0).bind fun r17 =>
 bif (!((r17.2.2).isNone)) then
  some ([], 0, false)
 else
  bif (((a0.length : Nat) : Int) != r14) then
   some ([], 0, false)
  else
   (pCmp n r17.1 a2).bind fun r31 =>
   bif (decide ((0 : Int) ≤ r31)) then
    some ([], 0, false)
   else
    (pExp n r17.1 a1 a2).bind fun r38 =>
    bif (!((r38.2).isNone)) then
     some ([], 0, false)
    else
     (pWrite n r38.1 r14).bind fun r46 =>
     some (r46.1, r46.2.1, (r46.2.2).isNone)
def kEqual (n : Nat) (a0 : List UInt8) (a1 : List UInt8) : Option (Bool) :=
 some (a0 == a1)
def kprefix (n : Nat) : Option (Unit) :=
 some ()
def klaid (n : Nat) (a0 : List UInt8) (a1 : Int) : Option (List UInt8) :=
 (kprefix n).bind fun r6 =>
 (gsum n a0).bind fun r8 =>
 gd ((([[48, 49, 48, 13, 6, 9, 96, 134, 72, 1, 101, 3, 4, 2, 1, 5, 0, 4, 32], r8] : List (List UInt8))).length ≤ 1000000) <|
 gd ((([[48, 49, 48, 13, 6, 9, 96, 134, 72, 1, 101, 3, 4, 2, 1, 5, 0, 4, 32], r8] : List (List UInt8))).flatten.length ≤ 1000000000) <|
 gd (okI .i64 (a1 - 3)) <|
 gd (okI .i64 ((a1 - 3) - ((((([[48, 49, 48, 13, 6, 9, 96, 134, 72, 1, 101, 3, 4, 2, 1, 5, 0, 4, 32], r8] : List (List UInt8))).flatten).length : Nat) : Int))) <|
 gd (([255] : List UInt8).length = 1) <|
 gd (0 ≤ ((a1 - 3) - ((((([[48, 49, 48, 13, 6, 9, 96, 134, 72, 1, 101, 3, 4, 2, 1, 5, 0, 4, 32], r8] : List (List UInt8))).flatten).length : Nat) : Int))) <|
 gd (((a1 - 3) - ((((([[48, 49, 48, 13, 6, 9, 96, 134, 72, 1, 101, 3, 4, 2, 1, 5, 0, 4, 32], r8] : List (List UInt8))).flatten).length : Nat) : Int)) ≤ 200) <|
 gd ((([[0, 1], (List.replicate (((a1 - 3) - ((((([[48, 49, 48, 13, 6, 9, 96, 134, 72, 1, 101, 3, 4, 2, 1, 5, 0, 4, 32], r8] : List (List UInt8))).flatten).length : Nat) : Int))).toNat (([255] : List UInt8).getD 0 0)), [0], ((([[48, 49, 48, 13, 6, 9, 96, 134, 72, 1, 101, 3, 4, 2, 1, 5, 0, 4, 32], r8] : List (List UInt8))).flatten)] : List (List UInt8))).length ≤ 1000000) <|
 gd ((([[0, 1], (List.replicate (((a1 - 3) - ((((([[48, 49, 48, 13, 6, 9, 96, 134, 72, 1, 101, 3, 4, 2, 1, 5, 0, 4, 32], r8] : List (List UInt8))).flatten).length : Nat) : Int))).toNat (([255] : List UInt8).getD 0 0)), [0], ((([[48, 49, 48, 13, 6, 9, 96, 134, 72, 1, 101, 3, 4, 2, 1, 5, 0, 4, 32], r8] : List (List UInt8))).flatten)] : List (List UInt8))).flatten.length ≤ 1000000000) <|
 some ((([[0, 1], (List.replicate (((a1 - 3) - ((((([[48, 49, 48, 13, 6, 9, 96, 134, 72, 1, 101, 3, 4, 2, 1, 5, 0, 4, 32], r8] : List (List UInt8))).flatten).length : Nat) : Int))).toNat (([255] : List UInt8).getD 0 0)), [0], ((([[48, 49, 48, 13, 6, 9, 96, 134, 72, 1, 101, 3, 4, 2, 1, 5, 0, 4, 32], r8] : List (List UInt8))).flatten)] : List (List UInt8))).flatten)
def kVerify (n : Nat) (a0_0 : List UInt32) (a0_1 : List UInt32) (a1 : List UInt8) (a2 : List UInt8) : Option (Option Int) :=
 (kCheck n a0_0 a0_1).bind fun r11 =>
 bif (!((r11).isNone)) then
  some r11
 else
  (kpower n a2 a0_1 a0_0).bind fun r21 =>
  bif (!r21.2.2) then
   some (some 8)
  else
   (ksize n a0_0).bind fun r31 =>
   (klaid n a1 r31).bind fun r32 =>
   (kEqual n r21.1 r32).bind fun r33 =>
   bif (!r33) then
    some (some 8)
   else
    some none
def kcut (n : Nat) (a0 : List UInt8) (a1 : Int) : Option (List UInt8 × Nat) :=
 bif (decide (a1 < ((a0.length : Nat) : Int))) then
 gd (0 ≤ a1) <|
 gd (a1 ≤ ((a0.length : Nat) : Int)) <|
 some (a0, a1.toNat)
 else
 some (a0, a0.length)
def pRead_l1_E (l0_4 : List UInt8) (m0_4 : Nat) (w4_1 : List UInt32) (i30_1 : Int) : S := ⟨[(0, kH 0), (4, kH 1), (28, kH 0), (29, kI ((m0_4 : Nat) : Int)), (30, kI i30_1)], [], [⟨(.ro false), 5, 1, m0_4, .b l0_4⟩, ⟨.row, 55, 1, (Int.tdiv (((m0_4 : Nat) : Int) + 3) 4).toNat, .w w4_1⟩]⟩
abbrev pRead_l1_P (n : Nat) (l0_4 : List UInt8) (m0_4 : Nat) (r : List UInt32 × Nat × Option Int) (fu : Nat) : S → Prop := fun s => ∃ (w4_1 : List UInt32), ∃ (i30_1 : Int), s = pRead_l1_E l0_4 m0_4 w4_1 i30_1 ∧ pRead_l1 n l0_4 m0_4 fu w4_1 i30_1 = some r
def pRead_j1_E (l0_4 : List UInt8) (m0_4 : Nat) : S := ⟨[(0, kH 0)], [], [⟨(.ro false), 5, 1, m0_4, .b l0_4⟩]⟩
abbrev pRead_j1_P (n : Nat) (r : List UInt32 × Nat × Option Int) : S → Prop := fun s => ∃ (l0_4 : List UInt8), ∃ (m0_4 : Nat), s = pRead_j1_E l0_4 m0_4 ∧ pRead_j1 n l0_4 m0_4 = some r
def pRead_l2_E (l0_5 : List UInt8) (m0_5 : Nat) : S := ⟨[(0, kH 0)], [], [⟨(.ro false), 5, 1, m0_5, .b l0_5⟩]⟩
abbrev pRead_l2_P (n : Nat) (r : List UInt32 × Nat × Option Int) (fu : Nat) : S → Prop := fun s => ∃ (l0_5 : List UInt8), ∃ (m0_5 : Nat), s = pRead_l2_E l0_5 m0_5 ∧ pRead_l2 n fu l0_5 m0_5 = some r
def pRead_R (r : List UInt32 × Nat × Option Int) : S := ⟨[(2, kH 0), (3, kE 34 r.2.2)], [], [⟨.row, 55, 1, r.2.1, .w r.1⟩]⟩
def pRead_ct (n : Nat) (r : List UInt32 × Nat × Option Int) : Ct := ctc aB fun x0 l0 => ct0 fun H => ([pRead n l0 = some r], shA H.length (.t [.c (.wh 0), .c (.s (.er 34 .i64 r.2.2))]), shH H.length [⟨.row, 55, 1, r.2.1, .w r.1⟩])
theorem pRead_ok (n : Nat) (r : List UInt32 × Nat × Option Int) : FnOk Tryd.prog Tr 49 (pRead_ct n r) := by
 refine ⟨fun args H g av objs hF hg ρ w vals hG hp ha => ?_, _, Tryd.func49, by kernel_rfl, by kernel_rfl⟩
 obtain ⟨x0, _, l0, rfl, e0, hF⟩ := ctc_inv hF
 obtain ⟨rfl, rfl, rfl, rfl⟩ := ct0_inv hF
 dsimp only
 obtain ⟨v0, vals, rfl, k0, ha⟩ := F2.inv ha
 obtain rfl := F2.inv0 ha
 have h : pRead n l0 = some r := hg
 obtain ⟨p0, s0, o0⟩ := aB_ok hp e0 (k0) 5
 have hR0 := rel0 (gv := (fun _ => undef)) (n := 55) (w := w) (args := [kH 0]) (H := [⟨.ro false, 5, 1, l0.length, .b l0⟩]) (gl := []) (hpL (ps := [p0]) (F2.cons o0 F2.nil)) (allRo_ok rfl) (F2.cons s0 F2.nil) GlR.nil (by simp)
 clear ha hp hg hF k0 e0
 refine calls_W Tryd.func49 rfl rfl hR0 (Q := fun e s => (e = .ret ∨ e = .normal) ∧ s = pRead_R r) ?_ ?_
 ·clear hR0
  unfold pRead at h
  have hT := tabO_dc
  refine Vrs hT [0] ⟨[(0, kH 0)], [], [ob 5 l0]⟩ ?_
  refine W_join (pRead_j1_P n r) ?_ ?_
  ·rintro _ ⟨l0_4, m0_4, rfl, h⟩
   unfold pRead_j1 at h
   refine W_seq ?_
   refine Vrs hT [0] ⟨[(0, kH 0), (21, kB (decide ((256 : Int) < ((m0_4 : Nat) : Int))))], [], [⟨(.ro false), 5, 1, m0_4, .b l0_4⟩]⟩ ?_
   refine Vi ((decide ((256 : Int) < ((m0_4 : Nat) : Int)))) (fun g22 => ?_) (fun g22 => ?_)
   ·replace h := bif_t h g22
    refine Vrs hT [] ⟨[(2, .c (.nils)), (3, kE 34 (some 4))], [], []⟩ ?_
    refine Vc [.nil 2 55 1 (.w [])] [0] (pRead_R ([], 0, (some 4))) (W_ret ?_)
    exact ⟨.inl rfl, by cases h; rfl⟩
   ·replace h := bif_f h g22
    refine W_skip ?_
    obtain ⟨g1, g2, g3, g4, g5, h⟩ := gd5 h
    obtain ⟨g6, h⟩ := gd_some h
    refine Vgs hT fN [] [] [0, 1] ⟨[(0, kH 0), (4, kH 1)], [], [⟨(.ro false), 5, 1, m0_4, .b l0_4⟩, ⟨.row, 55, 1, (Int.tdiv (((m0_4 : Nat) : Int) + 3) 4).toNat, .w (List.replicate ((Int.tdiv (((m0_4 : Nat) : Int) + 3) 4).toNat) 0)⟩]⟩ (aP g1 (aP g2 (aP g3 (aP g4 (aP g5 (aP g6 aN)))))) ?_
    refine W_seq ?_
    refine Vrs hT [0, 1] ⟨[(0, kH 0), (4, kH 1), (28, kH 0), (29, kI ((m0_4 : Nat) : Int)), (30, kI 0)], [], [⟨(.ro false), 5, 1, m0_4, .b l0_4⟩, ⟨.row, 55, 1, (Int.tdiv (((m0_4 : Nat) : Int) + 3) 4).toNat, .w (List.replicate ((Int.tdiv (((m0_4 : Nat) : Int) + 3) 4).toNat) 0)⟩]⟩ ?_
    refine W_block ?_
    refine Vc [] [0, 1] (pRead_l1_E l0_4 m0_4 (List.replicate ((Int.tdiv (((m0_4 : Nat) : Int) + 3) 4).toNat) 0) 0) (W_lp ((pRead_l1_P n l0_4 m0_4 r)) n ⟨_, _, rfl, h⟩ ?_)
    rintro fu_l1 _ ⟨w4_1, i30_1, rfl, h⟩
    cases fu_l1 with
    | zero => cases h
    | succ fu_l1 =>
     refine ⟨fu_l1, rfl, ?_⟩
     rw [pRead_l1] at h
     refine Vrs hT [0, 1] ⟨[(0, kH 0), (4, kH 1), (28, kH 0), (29, kI ((m0_4 : Nat) : Int)), (30, kI i30_1), (31, kB (decide (i30_1 < ((m0_4 : Nat) : Int))))], [], [⟨(.ro false), 5, 1, m0_4, .b l0_4⟩, ⟨.row, 55, 1, (Int.tdiv (((m0_4 : Nat) : Int) + 3) 4).toNat, .w w4_1⟩]⟩ ?_
     refine W_seq ?_
     refine Vi ((decide (i30_1 < ((m0_4 : Nat) : Int)))) (fun g21 => ?_) (fun g21 => ?_)
     ·replace h := bif_t h g21
      refine W_skip ?_
      refine W_seq ?_
      refine W_block ?_
      obtain ⟨g7, g8, h⟩ := gd2 h
      refine Vgs hT fN [] [] [0, 1] ⟨[(0, kH 0), (4, kH 1), (5, kI i30_1), (6, kU (l0_4.getD i30_1.toNat 0)), (28, kH 0), (29, kI ((m0_4 : Nat) : Int)), (30, kI i30_1)], [], [⟨(.ro false), 5, 1, m0_4, .b l0_4⟩, ⟨.row, 55, 1, (Int.tdiv (((m0_4 : Nat) : Int) + 3) 4).toNat, .w w4_1⟩]⟩ (aP g7 (aP g8 aN)) ?_
      obtain ⟨g9, g10, h⟩ := gd2 h
      refine Vgs hT fN [] [] [0, 1] ⟨[(0, kH 0), (4, kH 1), (6, kU (l0_4.getD i30_1.toNat 0)), (7, kI ((((m0_4 : Nat) : Int) - 1) - i30_1)), (28, kH 0), (29, kI ((m0_4 : Nat) : Int)), (30, kI i30_1)], [], [⟨(.ro false), 5, 1, m0_4, .b l0_4⟩, ⟨.row, 55, 1, (Int.tdiv (((m0_4 : Nat) : Int) + 3) 4).toNat, .w w4_1⟩]⟩ (aP g9 (aP g10 aN)) ?_
      obtain ⟨g11, g12, g13, g14, g15, h⟩ := gd5 h
      obtain ⟨g16, g17, g18, g19, h⟩ := gd4 h
      refine Vd hT fN 11 [] [(0, false), (4, false), (28, false), (29, false), (30, false), (40, false), (42, false), (44, false), (50, false)] [] [0, 1] ⟨[(0, kH 0), (4, kH 1), (28, kH 0), (29, kI ((m0_4 : Nat) : Int)), (30, kI i30_1)], [], [⟨(.ro false), 5, 1, m0_4, .b l0_4⟩, ⟨.row, 55, 1, (Int.tdiv (((m0_4 : Nat) : Int) + 3) 4).toNat, .w (w4_1.set ((Int.tdiv ((((m0_4 : Nat) : Int) - 1) - i30_1) 4).toNat) ((w4_1.getD ((Int.tdiv ((((m0_4 : Nat) : Int) - 1) - i30_1) 4).toNat) 0) ||| (shl32 ((l0_4.getD i30_1.toNat 0).toUInt32) (8 * (Int.tmod ((((m0_4 : Nat) : Int) - 1) - i30_1) 4)))))⟩]⟩ (aP g11 (aP g12 (aP g13 (aP g14 (aP g15 (aP g16 (aP g17 (aP g18 (aP g19 aN))))))))) ?_
      obtain ⟨g20, h⟩ := gd_some h
      refine Vg hT fN [] [] [0, 1] (pRead_l1_E l0_4 m0_4 (w4_1.set ((Int.tdiv ((((m0_4 : Nat) : Int) - 1) - i30_1) 4).toNat) ((w4_1.getD ((Int.tdiv ((((m0_4 : Nat) : Int) - 1) - i30_1) 4).toNat) 0) ||| (shl32 ((l0_4.getD i30_1.toNat 0).toUInt32) (8 * (Int.tmod ((((m0_4 : Nat) : Int) - 1) - i30_1) 4))))) (i30_1 + 1)) (aP g20 aN) ?_
      exact ⟨_, _, rfl, h⟩
     ·replace h := bif_f h g21
      refine Vc [] [1] ⟨[(4, kH 0)], [], [⟨.row, 55, 1, (Int.tdiv (((m0_4 : Nat) : Int) + 3) 4).toNat, .w w4_1⟩]⟩ (W_exit ?_)
      refine Vrs hT [0] ⟨[(2, kH 0), (3, .c (.s (.v .nilIface)))], [], [⟨.row, 55, 1, (Int.tdiv (((m0_4 : Nat) : Int) + 3) 4).toNat, .w w4_1⟩]⟩ ?_
      refine Vc [.er 3 34 .i64] [0] (pRead_R (w4_1, (Int.tdiv (((m0_4 : Nat) : Int) + 3) 4).toNat, none)) (W_ret ?_)
      exact ⟨.inl rfl, by cases h; rfl⟩
  ·refine W_block ?_
   refine Vc [] [0] (pRead_l2_E l0 l0.length) (W_lp ((pRead_l2_P n r)) n ⟨_, _, rfl, h⟩ ?_)
   rintro fu_l2 _ ⟨l0_5, m0_5, rfl, h⟩
   cases fu_l2 with
   | zero => cases h
   | succ fu_l2 =>
    refine ⟨fu_l2, rfl, ?_⟩
    rw [pRead_l2] at h
    refine W_seq ?_
    refine W_seq ?_
    rcases Bool.eq_false_or_eq_true (decide ((0 : Int) < ((m0_5 : Nat) : Int))) with g23 | g23
    ·replace h := bif_t h g23
     obtain ⟨g24, g25, h⟩ := gd2 h
     refine Vg hT fN [(3, true)] [] [0] ⟨[(0, kH 0), (16, kB ((l0_5.getD 0 0) == 0))], [], [⟨(.ro false), 5, 1, m0_5, .b l0_5⟩]⟩ (aP g23 (aP g24 (aP g25 aN))) ?_
     refine Vi (((l0_5.getD 0 0) == 0)) (fun g28 => ?_) (fun g28 => ?_)
     ·replace h := bif_t h g28
      refine W_skip ?_
      refine W_block ?_
      obtain ⟨g26, g27, h⟩ := gd2 h
      refine Vg hT fN [] [.vw 0 false] [1] (pRead_l2_E ((l0_5.drop 1).take (m0_5 - 1)) (m0_5 - 1)) (aP g26 (aP g27 aN)) ?_
      exact ⟨_, _, rfl, h⟩
     ·replace h := bif_f h g28
      refine Vc [] [0] (pRead_j1_E l0_5 m0_5) (W_exit ?_)
      exact ⟨_, _, rfl, h⟩
    ·replace h := bif_f h g23
     refine Vg hT fN [(3, false)] [] [0] ⟨[(0, kH 0), (16, kB false)], [], [⟨(.ro false), 5, 1, m0_5, .b l0_5⟩]⟩ (aP g23 aN) ?_
     refine Vi (false) (fun hb => by cases hb) (fun _ => ?_)
     refine Vc [] [0] (pRead_j1_E l0_5 m0_5) (W_exit ?_)
     exact ⟨_, _, rfl, h⟩
 ·rintro e s' ⟨he, rfl⟩
  refine ⟨he, fun a' w' hr => ?_⟩
  exact retS_ok tabO_dc hr (rs := [.tmp 2, .tmp 3]) rfl (objs := [0]) (by kernel_rfl)
def kpower_R (r : List UInt8 × Nat × Bool) : S := ⟨[(6, kH 0), (7, kB r.2.2)], [], [⟨.row, 5, 1, r.2.1, .b r.1⟩]⟩
def kpower_ct (n : Nat) (r : List UInt8 × Nat × Bool) : Ct := ctc aB fun x0 l0 => ctc aW fun x1 l1 => ctc aW fun x2 l2 => ct0 fun H => ([kpower n l0 l1 l2 = some r], shA H.length (.t [.c (.wh 0), .c (.s (.b r.2.2))]), shH H.length [⟨.row, 5, 1, r.2.1, .b r.1⟩])
theorem kpower_ok (n : Nat) (r : List UInt8 × Nat × Bool) : FnOk Tryd.prog Tr 27 (kpower_ct n r) := by
 refine ⟨fun args H g av objs hF hg ρ w vals hG hp ha => ?_, _, Tryd.func27, by kernel_rfl, by kernel_rfl⟩
 obtain ⟨x0, _, l0, rfl, e0, hF⟩ := ctc_inv hF
 obtain ⟨x1, _, l1, rfl, e1, hF⟩ := ctc_inv hF
 obtain ⟨x2, _, l2, rfl, e2, hF⟩ := ctc_inv hF
 obtain ⟨rfl, rfl, rfl, rfl⟩ := ct0_inv hF
 dsimp only
 obtain ⟨v0, vals, rfl, k0, ha⟩ := F2.inv ha
 obtain ⟨v1, vals, rfl, k1, ha⟩ := F2.inv ha
 obtain ⟨v2, vals, rfl, k2, ha⟩ := F2.inv ha
 obtain rfl := F2.inv0 ha
 have h : kpower n l0 l1 l2 = some r := hg
 obtain ⟨p0, s0, o0⟩ := aB_ok hp e0 (k0) 5
 obtain ⟨p1, s1, o1⟩ := aW_ok hp e1 (k1) 55
 obtain ⟨p2, s2, o2⟩ := aW_ok hp e2 (k2) 55
 have hR0 := rel0 (gv := (fun _ => undef)) (n := 52) (w := w) (args := [kH 0, kH 1, kH 2]) (H := [⟨.ro false, 5, 1, l0.length, .b l0⟩, ⟨.ro false, 55, 1, l1.length, .w l1⟩, ⟨.ro false, 55, 1, l2.length, .w l2⟩]) (gl := []) (hpL (ps := [p0, p1, p2]) (F2.cons o0 (F2.cons o1 (F2.cons o2 F2.nil)))) (allRo_ok rfl) (F2.cons s0 (F2.cons s1 (F2.cons s2 F2.nil))) GlR.nil (by simp)
 clear ha hp hg hF k0 k1 k2 e0 e1 e2
 refine calls_W Tryd.func27 rfl rfl hR0 (Q := fun e s => (e = .ret ∨ e = .normal) ∧ s = kpower_R r) ?_ ?_
 ·clear hR0
  unfold kpower at h
  have hT := tabO_dc
  refine Vrs hT [0, 1, 2] ⟨[(0, kH 0), (1, kH 1), (2, kH 2)], [], [ob 5 l0, ow 55 l1, ow 55 l2]⟩ ?_
  obtain ⟨r14, g1, h⟩ := bind_some' h
  refine Vgs hT (fT 1 (ksize_ok n r14) fN) [] [] [0, 1, 2] ⟨[(0, kH 0), (1, kH 1), (2, kH 2), (8, kI r14)], [], [ob 5 l0, ow 55 l1, ow 55 l2]⟩ (aP g1 aN) ?_
  obtain ⟨r17, g2, h⟩ := bind_some' h
  refine Vgs hT (fT 1 (pRead_ok n r17) fN) [] [] [0, 1, 2, 3] ⟨[(0, kH 0), (1, kH 1), (2, kH 2), (8, kI r14), (9, kH 3), (10, kE 34 r17.2.2)], [], [ob 5 l0, ow 55 l1, ow 55 l2, ⟨.row, 55, 1, r17.2.1, .w r17.1⟩]⟩ (aP g2 aN) ?_
  refine W_seq ?_
  refine W_seq ?_
  rcases Bool.eq_false_or_eq_true (!((r17.2.2).isNone)) with g3 | g3
  ·replace h := bif_t h g3
   refine Vg hT fN [(2, true)] [] [1, 2, 3] ⟨[(1, kH 0), (2, kH 1), (8, kI r14), (9, kH 2), (33, kB true)], [], [ow 55 l1, ow 55 l2, ⟨.row, 55, 1, r17.2.1, .w r17.1⟩]⟩ (aP g3 aN) ?_
   refine Vi (true) (fun _ => ?_) (fun hb => by cases hb)
   refine Vrs hT [] ⟨[(6, .c (.nils)), (7, kB false)], [], []⟩ ?_
   refine Vc [.nil 6 5 1 (.b [])] [0] (kpower_R ([], 0, false)) (W_ret ?_)
   exact ⟨.inl rfl, by cases h; rfl⟩
  ·replace h := bif_f h g3
   rcases Bool.eq_false_or_eq_true (((l0.length : Nat) : Int) != r14) with g4 | g4
   ·replace h := bif_t h g4
    refine Vg hT fN [(2, false), (8, true)] [] [1, 2, 3] ⟨[(1, kH 0), (2, kH 1), (8, kI r14), (9, kH 2), (33, kB true)], [], [ow 55 l1, ow 55 l2, ⟨.row, 55, 1, r17.2.1, .w r17.1⟩]⟩ (aP g3 (aP g4 aN)) ?_
    refine Vi (true) (fun _ => ?_) (fun hb => by cases hb)
    refine Vrs hT [] ⟨[(6, .c (.nils)), (7, kB false)], [], []⟩ ?_
    refine Vc [.nil 6 5 1 (.b [])] [0] (kpower_R ([], 0, false)) (W_ret ?_)
    exact ⟨.inl rfl, by cases h; rfl⟩
   ·replace h := bif_f h g4
    obtain ⟨r31, g5, h⟩ := bind_some' h
    refine Vg hT (fT 11 (pCmp_ok n r31) fN) [(2, false), (8, false)] [] [1, 2, 3] ⟨[(1, kH 0), (2, kH 1), (8, kI r14), (9, kH 2), (33, kB (decide ((0 : Int) ≤ r31)))], [], [ow 55 l1, ow 55 l2, ⟨.row, 55, 1, r17.2.1, .w r17.1⟩]⟩ (aP g3 (aP g4 (aP g5 aN))) ?_
    refine Vi ((decide ((0 : Int) ≤ r31))) (fun g9 => ?_) (fun g9 => ?_)
    ·replace h := bif_t h g9
     refine Vrs hT [] ⟨[(6, .c (.nils)), (7, kB false)], [], []⟩ ?_
     refine Vc [.nil 6 5 1 (.b [])] [0] (kpower_R ([], 0, false)) (W_ret ?_)
     exact ⟨.inl rfl, by cases h; rfl⟩
    ·replace h := bif_f h g9
     refine W_skip ?_
     obtain ⟨r38, g6, h⟩ := bind_some' h
     refine Vgs hT (fT 3 (pExp_ok n r38) fN) [] [] [3] ⟨[(8, kI r14), (10, kE 34 r38.2), (11, kH 0)], [], [nw 55 r38.1]⟩ (aP g6 aN) ?_
     refine W_seq ?_
     refine Vrs hT [0] ⟨[(8, kI r14), (11, kH 0), (42, kB (!((r38.2).isNone)))], [], [nw 55 r38.1]⟩ ?_
     refine Vi ((!((r38.2).isNone))) (fun g8 => ?_) (fun g8 => ?_)
     ·replace h := bif_t h g8
      refine Vrs hT [] ⟨[(6, .c (.nils)), (7, kB false)], [], []⟩ ?_
      refine Vc [.nil 6 5 1 (.b [])] [0] (kpower_R ([], 0, false)) (W_ret ?_)
      exact ⟨.inl rfl, by cases h; rfl⟩
     ·replace h := bif_f h g8
      refine W_skip ?_
      obtain ⟨r46, g7, h⟩ := bind_some' h
      refine Vgs hT (fT 2 (pWrite_ok n r46) fN) [] [] [1] ⟨[(10, kE 34 r46.2.2), (12, kH 0)], [], [⟨.row, 5, 1, r46.2.1, .b r46.1⟩]⟩ (aP g7 aN) ?_
      refine Vds hT fN 4 [] [(6, false), (51, false)] [] [0] ⟨[(6, kH 0), (7, kB ((r46.2.2).isNone))], [], [⟨.row, 5, 1, r46.2.1, .b r46.1⟩]⟩ aN ?_
      refine Vc [] [0] (kpower_R (r46.1, r46.2.1, (r46.2.2).isNone)) (W_ret ?_)
      exact ⟨.inl rfl, by cases h; rfl⟩
 ·rintro e s' ⟨he, rfl⟩
  refine ⟨he, fun a' w' hr => ?_⟩
  exact retS_ok tabO_dc hr (rs := [.tmp 6, .tmp 7]) rfl (objs := [0]) (by kernel_rfl)
def kEqual_R (r : Bool) : S := ⟨[(4, kB r)], [], []⟩
def kEqual_ct (n : Nat) (r : Bool) : Ct := ctc aB fun x0 l0 => ctc aB fun x1 l1 => ct0 fun H => ([kEqual n l0 l1 = some r], shA H.length (kB r), shH H.length [])
theorem kEqual_ok (n : Nat) (r : Bool) : FnOk Tryd.prog Tr 36 (kEqual_ct n r) := by
 refine ⟨fun args H g av objs hF hg ρ w vals hG hp ha => ?_, _, Tryd.func36, by kernel_rfl, by kernel_rfl⟩
 obtain ⟨x0, _, l0, rfl, e0, hF⟩ := ctc_inv hF
 obtain ⟨x1, _, l1, rfl, e1, hF⟩ := ctc_inv hF
 obtain ⟨rfl, rfl, rfl, rfl⟩ := ct0_inv hF
 dsimp only
 obtain ⟨v0, vals, rfl, k0, ha⟩ := F2.inv ha
 obtain ⟨v1, vals, rfl, k1, ha⟩ := F2.inv ha
 obtain rfl := F2.inv0 ha
 have h : kEqual n l0 l1 = some r := hg
 obtain ⟨p0, s0, o0⟩ := aB_ok hp e0 (k0) 5
 obtain ⟨p1, s1, o1⟩ := aB_ok hp e1 (k1) 5
 have hR0 := rel0 (gv := (fun _ => undef)) (n := 10) (w := w) (args := [kH 0, kH 1]) (H := [⟨.ro false, 5, 1, l0.length, .b l0⟩, ⟨.ro false, 5, 1, l1.length, .b l1⟩]) (gl := []) (hpL (ps := [p0, p1]) (F2.cons o0 (F2.cons o1 F2.nil))) (allRo_ok rfl) (F2.cons s0 (F2.cons s1 F2.nil)) GlR.nil (by simp)
 clear ha hp hg hF k0 k1 e0 e1
 refine calls_W Tryd.func36 rfl rfl hR0 (Q := fun e s => (e = .ret ∨ e = .normal) ∧ s = kEqual_R r) ?_ ?_
 ·clear hR0
  unfold kEqual at h
  have hT := tabO_dc
  refine Vrs hT [0, 1] ⟨[(0, kH 0), (1, kH 1)], [], [ob 5 l0, ob 5 l1]⟩ ?_
  refine Vrs hT [] ⟨[(4, kB (l0 == l1))], [], []⟩ ?_
  refine Vc [] [] (kEqual_R (l0 == l1)) (W_ret ?_)
  exact ⟨.inl rfl, by cases h; rfl⟩
 ·rintro e s' ⟨he, rfl⟩
  refine ⟨he, fun a' w' hr => ?_⟩
  exact retS_ok tabO_dc hr (rs := [.tmp 4]) rfl (objs := []) (by kernel_rfl)
def kprefix_R (r : Unit) : S := ⟨[(0, kH 0)], [], [nb 5 [48, 49, 48, 13, 6, 9, 96, 134, 72, 1, 101, 3, 4, 2, 1, 5, 0, 4, 32]]⟩
def kprefix_ct (n : Nat) (r : Unit) : Ct := ct0 fun H => ([kprefix n = some r], shA H.length (kH 0), shH H.length [nb 5 [48, 49, 48, 13, 6, 9, 96, 134, 72, 1, 101, 3, 4, 2, 1, 5, 0, 4, 32]])
theorem kprefix_ok (n : Nat) (r : Unit) : FnOk Tryd.prog Tr 52 (kprefix_ct n r) := by
 refine ⟨fun args H g av objs hF hg ρ w vals hG hp ha => ?_, _, Tryd.func52, by kernel_rfl, by kernel_rfl⟩
 obtain ⟨rfl, rfl, rfl, rfl⟩ := ct0_inv hF
 dsimp only
 obtain rfl := F2.inv0 ha
 have h : kprefix n = some r := hg
 have hR0 := rel0 (gv := (fun _ => undef)) (n := 2) (w := w) (args := []) (H := []) (gl := []) (hpL (ps := []) F2.nil) (allRo_ok rfl) F2.nil GlR.nil (by simp)
 clear ha hp hg hF 
 refine calls_W Tryd.func52 rfl rfl hR0 (Q := fun e s => (e = .ret ∨ e = .normal) ∧ s = kprefix_R r) ?_ ?_
 ·clear hR0
  unfold kprefix at h
  have hT := tabO_dc
  refine Vrs hT [] ⟨[], [], []⟩ ?_
  refine Vrs hT [0] ⟨[(0, kH 0)], [], [⟨.row, 5, 1, 19, .b [48, 49, 48, 13, 6, 9, 96, 134, 72, 1, 101, 3, 4, 2, 1, 5, 0, 4, 32]⟩]⟩ ?_
  refine Vc [] [0] (kprefix_R ()) (W_ret ?_)
  exact ⟨.inl rfl, by cases h; rfl⟩
 ·rintro e s' ⟨he, rfl⟩
  refine ⟨he, fun a' w' hr => ?_⟩
  exact retS_ok tabO_dc hr (rs := [.tmp 0]) rfl (objs := [0]) (by kernel_rfl)
def klaid_R (r : List UInt8) : S := ⟨[(4, kH 0)], [], [nb 5 r]⟩
def klaid_ct (n : Nat) (r : List UInt8) : Ct := ctc aB fun x0 l0 => ctc (fun _ => aI) fun x1 l1 => ct0 fun H => ([klaid n l0 l1 = some r], shA H.length (kH 0), shH H.length [nb 5 r])
theorem klaid_ok (n : Nat) (r : List UInt8) : FnOk Tryd.prog GK 28 (klaid_ct n r) := by
 refine ⟨fun args H g av objs hF hg ρ w vals hG hp ha => ?_, _, Tryd.func28, by kernel_rfl, by kernel_rfl⟩
 obtain ⟨x0, _, l0, rfl, e0, hF⟩ := ctc_inv hF
 obtain ⟨x1, _, l1, rfl, e1, hF⟩ := ctc_inv hF
 obtain ⟨rfl, rfl, rfl, rfl⟩ := ct0_inv hF
 dsimp only
 obtain ⟨v0, vals, rfl, k0, ha⟩ := F2.inv ha
 obtain ⟨v1, vals, rfl, k1, ha⟩ := F2.inv ha
 obtain rfl := F2.inv0 ha
 have hI : ∀ w', Kp (noB (fun _ => undef)) w w' → GK w' := fun _ hk => GK.keep hk.below hG
 have h : klaid n l0 l1 = some r := hg
 obtain ⟨p0, s0, o0⟩ := aB_ok hp e0 (k0) 5
 have s1 := aI_ok e1 (k1)
 have hR0 := rel0 (gv := (fun _ => undef)) (n := 23) (w := w) (args := [kH 0, kI l1]) (H := [⟨.ro false, 5, 1, l0.length, .b l0⟩]) (gl := []) (hpL (ps := [p0]) (F2.cons o0 F2.nil)) (allRo_ok rfl) (F2.cons s0 (F2.cons s1 F2.nil)) GlR.nil (by simp)
 clear ha hp hg hF k0 k1 e0 e1
 refine calls_W Tryd.func28 rfl rfl hR0 (Q := fun e s => (e = .ret ∨ e = .normal) ∧ s = klaid_R r) ?_ ?_
 ·clear hR0
  unfold klaid at h
  have hT := tabO_dc
  refine Vrs hT [0] ⟨[(0, kH 0), (1, kI l1)], [], [ob 5 l0]⟩ ?_
  obtain ⟨r6, g1, h⟩ := bind_some' h
  obtain ⟨r8, g2, h⟩ := bind_some' h
  obtain ⟨g3, g4, h⟩ := gd2 h
  refine Vgs hT (fT 0 (kprefix_ok n r6) (fI 2 (gsum_ok n r8) hI (fT 4 cat_h fN))) [] [] [4] ⟨[(1, kI l1), (5, kH 0)], [], [nb 5 ((([[48, 49, 48, 13, 6, 9, 96, 134, 72, 1, 101, 3, 4, 2, 1, 5, 0, 4, 32], r8] : List (List UInt8))).flatten)]⟩ (aP g1 (aP g2 (aP g3 (aP g4 aN)))) ?_
  obtain ⟨g5, g6, g7, g8, g9, h⟩ := gd5 h
  obtain ⟨g10, g11, h⟩ := gd2 h
  refine Vgs hT (fT 7 rep_h (fT 11 cat_h fN)) [] [] [6] ⟨[(4, kH 0)], [], [nb 5 ((([[0, 1], (List.replicate (((l1 - 3) - ((((([[48, 49, 48, 13, 6, 9, 96, 134, 72, 1, 101, 3, 4, 2, 1, 5, 0, 4, 32], r8] : List (List UInt8))).flatten).length : Nat) : Int))).toNat (([255] : List UInt8).getD 0 0)), [0], ((([[48, 49, 48, 13, 6, 9, 96, 134, 72, 1, 101, 3, 4, 2, 1, 5, 0, 4, 32], r8] : List (List UInt8))).flatten)] : List (List UInt8))).flatten)]⟩ (aP g5 (aP g6 (aP g7 (aP g8 (aP g9 (aP g10 (aP g11 aN))))))) ?_
  refine Vc [] [0] (klaid_R ((([[0, 1], (List.replicate (((l1 - 3) - ((((([[48, 49, 48, 13, 6, 9, 96, 134, 72, 1, 101, 3, 4, 2, 1, 5, 0, 4, 32], r8] : List (List UInt8))).flatten).length : Nat) : Int))).toNat (([255] : List UInt8).getD 0 0)), [0], ((([[48, 49, 48, 13, 6, 9, 96, 134, 72, 1, 101, 3, 4, 2, 1, 5, 0, 4, 32], r8] : List (List UInt8))).flatten)] : List (List UInt8))).flatten)) (W_ret ?_)
  exact ⟨.inl rfl, by cases h; rfl⟩
 ·rintro e s' ⟨he, rfl⟩
  refine ⟨he, fun a' w' hr => ?_⟩
  exact retS_ok tabO_dc hr (rs := [.tmp 4]) rfl (objs := [0]) (by kernel_rfl)
def kVerify_R (r : Option Int) : S := ⟨[(6, kE 34 r)], [], []⟩
def kVerify_ct (n : Nat) (r : Option Int) : Ct := ctc (fun _ => aGc 2) fun x0 y0 => ctl (fun H => aW H (.c (y0.getD 0 .junk))) fun l0_0 => ctl (fun H => aW H (.c (y0.getD 1 .junk))) fun l0_1 => ctc aB fun x1 l1 => ctc aB fun x2 l2 => ct0 fun H => ([kVerify n l0_0 l0_1 l1 l2 = some r], shA H.length (kE 34 r), shH H.length [])
theorem kVerify_ok (n : Nat) (r : Option Int) : FnOk Tryd.prog GK 16 (kVerify_ct n r) := by
 refine ⟨fun args H g av objs hF hg ρ w vals hG hp ha => ?_, _, Tryd.func16, by kernel_rfl, by kernel_rfl⟩
 obtain ⟨x0, _, y0, rfl, e0, hF⟩ := ctc_inv hF
 obtain ⟨l0_0, e1, hF⟩ := ctl_inv hF
 obtain ⟨l0_1, e2, hF⟩ := ctl_inv hF
 obtain ⟨x1, _, l1, rfl, e3, hF⟩ := ctc_inv hF
 obtain ⟨x2, _, l2, rfl, e4, hF⟩ := ctc_inv hF
 obtain ⟨rfl, rfl, rfl, rfl⟩ := ct0_inv hF
 dsimp only
 obtain ⟨v0, vals, rfl, k0, ha⟩ := F2.inv ha
 obtain ⟨v1, vals, rfl, k1, ha⟩ := F2.inv ha
 obtain ⟨v2, vals, rfl, k2, ha⟩ := F2.inv ha
 obtain rfl := F2.inv0 ha
 have hI : ∀ w', Kp (noB (fun _ => undef)) w w' → GK w' := fun _ hk => GK.keep hk.below hG
 have h : kVerify n l0_0 l0_1 l1 l2 = some r := hg
 obtain ⟨vs0, hn0, rfl, hy0⟩ := aGc_ok e0 k0
 obtain ⟨p0_0, s0_0, o0_0⟩ := aW_ok hp e1 (hy0 0 (by decide)) 55
 obtain ⟨p0_1, s0_1, o0_1⟩ := aW_ok hp e2 (hy0 1 (by decide)) 55
 obtain ⟨p1, s1, o1⟩ := aB_ok hp e3 (k1) 5
 obtain ⟨p2, s2, o2⟩ := aB_ok hp e4 (k2) 5
 have hR0 := rel0 (gv := (fun _ => undef)) (n := 37) (w := w) (args := [.g 2 (.c [.wh 0, .wh 1]), kH 2, kH 3]) (H := [⟨.ro false, 55, 1, l0_0.length, .w l0_0⟩, ⟨.ro false, 55, 1, l0_1.length, .w l0_1⟩, ⟨.ro false, 5, 1, l1.length, .b l1⟩, ⟨.ro false, 5, 1, l2.length, .b l2⟩]) (gl := []) (hpL (ps := [p0_0, p0_1, p1, p2]) (F2.cons o0_0 (F2.cons o0_1 (F2.cons o1 (F2.cons o2 F2.nil))))) (allRo_ok rfl) (F2.cons ⟨vs0, (by rw [lstE undef hn0]; exact (F2.cons s0_0 (F2.cons s0_1 F2.nil))), hn0, rfl⟩ (F2.cons s1 (F2.cons s2 F2.nil))) GlR.nil (by simp)
 clear ha hp hg hF k0 k1 k2 e0 e1 e2 e3 e4
 refine calls_W Tryd.func16 rfl rfl hR0 (Q := fun e s => (e = .ret ∨ e = .normal) ∧ s = kVerify_R r) ?_ ?_
 ·clear hR0
  unfold kVerify at h
  have hT := tabO_dc
  refine Vrs hT [2, 3, 4, 0, 1] ⟨[(1, kH 0), (2, kH 1), (3, kP 2 0)], [], [ob 5 l1, ob 5 l2, ⟨.blk, 40, 1, 2, .c [.wh 3, .wh 4]⟩, ow 55 l0_0, ow 55 l0_1]⟩ ?_
  refine W_seq ?_
  obtain ⟨r11, g1, h⟩ := bind_some' h
  refine Vgs hT (fT 1 (kCheck_ok n r11) fN) [] [] [0, 1, 2, 3, 4] ⟨[(1, kH 0), (2, kH 1), (3, kP 2 0), (7, kE 34 r11)], [], [ob 5 l1, ob 5 l2, ⟨.blk, 40, 1, 2, .c [.wh 3, .wh 4]⟩, ow 55 l0_0, ow 55 l0_1]⟩ (aP g1 aN) ?_
  refine Vrs hT [0, 1, 2, 3, 4] ⟨[(1, kH 0), (2, kH 1), (3, kP 2 0), (7, kE 34 r11), (13, kB (!((r11).isNone)))], [], [ob 5 l1, ob 5 l2, ⟨.blk, 40, 1, 2, .c [.wh 3, .wh 4]⟩, ow 55 l0_0, ow 55 l0_1]⟩ ?_
  refine Vi ((!((r11).isNone))) (fun g8 => ?_) (fun g8 => ?_)
  ·replace h := bif_t h g8
   refine Vrs hT [] ⟨[(6, kE 34 r11)], [], []⟩ ?_
   refine Vc [] [] (kVerify_R r11) (W_ret ?_)
   exact ⟨.inl rfl, by cases h; rfl⟩
  ·replace h := bif_f h g8
   refine W_skip ?_
   obtain ⟨r21, g2, h⟩ := bind_some' h
   refine Vgs hT (fT 5 (kpower_ok n r21) fN) [] [] [0, 2, 3, 4, 5] ⟨[(1, kH 0), (3, kP 1 0), (8, kH 4), (9, kB r21.2.2)], [], [ob 5 l1, ⟨.blk, 40, 1, 2, .c [.wh 2, .wh 3]⟩, ow 55 l0_0, ow 55 l0_1, ⟨.row, 5, 1, r21.2.1, .b r21.1⟩]⟩ (aP g2 aN) ?_
   refine W_seq ?_
   refine W_seq ?_
   rcases Bool.eq_false_or_eq_true (!r21.2.2) with g3 | g3
   ·replace h := bif_t h g3
    refine Vg hT fN [(2, true)] [] [] ⟨[(35, kB true)], [], []⟩ (aP g3 aN) ?_
    refine Vi (true) (fun _ => ?_) (fun hb => by cases hb)
    refine Vrs hT [] ⟨[(6, kE 34 (some 8))], [], []⟩ ?_
    refine Vc [] [] (kVerify_R (some 8)) (W_ret ?_)
    exact ⟨.inl rfl, by cases h; rfl⟩
   ·replace h := bif_f h g3
    obtain ⟨r31, g4, h⟩ := bind_some' h
    obtain ⟨r32, g5, h⟩ := bind_some' h
    obtain ⟨r33, g6, h⟩ := bind_some' h
    refine Vg hT (fT 7 (ksize_ok n r31) (fI 8 (klaid_ok n r32) hI (fT 9 (kEqual_ok n r33) fN))) [(2, false)] [] [] ⟨[(35, kB (!r33))], [], []⟩ (aP g3 (aP g4 (aP g5 (aP g6 aN)))) ?_
    refine Vi ((!r33)) (fun g7 => ?_) (fun g7 => ?_)
    ·replace h := bif_t h g7
     refine Vrs hT [] ⟨[(6, kE 34 (some 8))], [], []⟩ ?_
     refine Vc [] [] (kVerify_R (some 8)) (W_ret ?_)
     exact ⟨.inl rfl, by cases h; rfl⟩
    ·replace h := bif_f h g7
     refine W_skip ?_
     refine Vrs hT [] ⟨[(6, .c (.s (.v .nilIface)))], [], []⟩ ?_
     refine Vc [.er 6 34 .i64] [] (kVerify_R none) (W_ret ?_)
     exact ⟨.inl rfl, by cases h; rfl⟩
 ·rintro e s' ⟨he, rfl⟩
  refine ⟨he, fun a' w' hr => ?_⟩
  exact retS_ok tabO_dc hr (rs := [.tmp 6]) rfl (objs := []) (by kernel_rfl)
def kcut_R (r : List UInt8 × Nat) : S := ⟨[(4, .c (.sl 0 0 r.2))], [(1000000, kH 0)], [ob 5 r.1]⟩
def kcut_ct (n : Nat) (r : List UInt8 × Nat) : Ct := ctc aB fun x0 l0 => ctc (fun _ => aI) fun x1 l1 => ctl (fun H => subC 0 r.2 x0) fun ys => ct0 fun H => ([kcut n l0 l1 = some r], ys, [])
theorem kcut_ok (n : Nat) (r : List UInt8 × Nat) : FnOk Tryd.prog Tr 10 (kcut_ct n r) := by
 refine ⟨fun args H g av objs hF hg ρ w vals hG hp ha => ?_, _, Tryd.func10, by kernel_rfl, by kernel_rfl⟩
 obtain ⟨x0, _, l0, rfl, e0, hF⟩ := ctc_inv hF
 obtain ⟨x1, _, l1, rfl, e1, hF⟩ := ctc_inv hF
 obtain ⟨ys, e2, hF⟩ := ctl_inv hF
 obtain ⟨rfl, rfl, rfl, rfl⟩ := ct0_inv hF
 dsimp only
 obtain ⟨v0, vals, rfl, k0, ha⟩ := F2.inv ha
 obtain ⟨v1, vals, rfl, k1, ha⟩ := F2.inv ha
 obtain rfl := F2.inv0 ha
 have h : kcut n l0 l1 = some r := hg
 obtain ⟨p0, s0, o0⟩ := aB_ok hp e0 (k0) 5
 have s1 := aI_ok e1 (k1)
 have kk := k0
 have zz := aB_sz hp e0
 have hR0 := rel0 (gv := (fun j => ([v0, v1] : List Value).getD j undef)) (n := 13) (w := w) (args := [kH 0, kI l1]) (H := [⟨.ro false, 5, 1, l0.length, .b l0⟩]) (gl := [(1000000, .c (.wh 0))]) (hpL (ps := [p0]) (F2.cons o0 F2.nil)) (allRo_ok rfl) (F2.cons s0 (F2.cons s1 F2.nil)) (GlR.cons 0 s0 GlR.nil) (by simp)
 clear ha hp hg hF k0 k1 e0 e1
 refine calls_W Tryd.func10 rfl rfl hR0 (Q := fun e s => (e = .ret ∨ e = .normal) ∧ s = kcut_R r) ?_ ?_
 ·clear hR0
  unfold kcut at h
  have hT := tabO_dc
  refine Vrs hT [0] ⟨[(0, kH 0), (1, kI l1)], [(1000000, kH 0)], [ob 5 l0]⟩ ?_
  refine W_seq ?_
  refine Vrs hT [0] ⟨[(0, kH 0), (1, kI l1), (8, kB (decide (l1 < ((l0.length : Nat) : Int))))], [(1000000, kH 0)], [ob 5 l0]⟩ ?_
  refine Vi ((decide (l1 < ((l0.length : Nat) : Int)))) (fun g3 => ?_) (fun g3 => ?_)
  ·replace h := bif_t h g3
   obtain ⟨g1, g2, h⟩ := gd2 h
   refine Vgs hT fN [] [] [0] ⟨[(4, .c (.sl 0 0 l1.toNat))], [(1000000, kH 0)], [ob 5 l0]⟩ (aP g1 (aP g2 aN)) ?_
   refine Vc [] [0] (kcut_R (l0, l1.toNat)) (W_ret ?_)
   exact ⟨.inl rfl, by cases h; rfl⟩
  ·replace h := bif_f h g3
   refine W_skip ?_
   refine Vrs hT [0] ⟨[(4, kH 0)], [(1000000, kH 0)], [ob 5 l0]⟩ ?_
   refine Vc [.sb 4] [0] (kcut_R (l0, l0.length)) (W_ret ?_)
   exact ⟨.inl rfl, by cases h; rfl⟩
 ·rintro e s' ⟨he, rfl⟩
  refine ⟨he, fun a' w' hr => ?_⟩
  exact retB_ok (q := 0) hr rfl rfl rfl (by kernel_rfl) kk zz e2
end Go.Proofs.YthichmclbiggmaaDoor
end
section
namespace Go.Sx
open Go Go.RowKit Go.Ch Go.Proofs.YthichmclbiggmaaDoor
theorem getD_set_ne {α : Type} {z : α} (l : List α) {i k : Nat} (x : α) (h : i ≠ k) : (l.set i x).getD k z = l.getD k z := by
 rw [List.getD_eq_getElem?_getD, List.getD_eq_getElem?_getD, List.getElem?_set_ne h]
theorem getD_set_eq {α : Type} {z : α} (l : List α) {i : Nat} (x : α) (h : i < l.length) : (l.set i x).getD i z = x := by
 rw [List.getD_eq_getElem?_getD, List.getElem?_set_self h]; rfl
theorem roll_tab : ∀ k : Fin 32, 0 < k.val → ((UInt64.ofInt (-(k.val : Int))) &&& (31 : UInt64)).toNat = 32 - k.val ∧ ((32 : UInt64) - ((UInt64.ofInt (-(k.val : Int))) &&& (31 : UInt64))).toNat = k.val := by decide +kernel
theorem groll_is (n : Nat) (x : UInt32) {k : Nat} (h0 : 0 < k) (hk : k < 32) : groll n x (k : Int) = some (rotr x k) := by
 obtain ⟨e1, e2⟩ := roll_tab ⟨k, hk⟩ h0
 dsimp only at e1 e2
 unfold groll grot
 rw [gd_pos (okI64 (by omega) (by omega)), gd_pos (by omega), gd_pos (by omega), Option.bind_some, e1, e2]
 unfold shl32 shr32 rotr
 rw [if_pos (by omega), if_pos (by omega), Int.toNat_natCast, Int.toNat_natCast]
theorem ground_is (n : Nat) (V : Words) (x : UInt32) : ground n V.list x = some (roundOf V x).list := by
 have r : ∀ (y : UInt32) (k : Nat), 0 < k → k < 32 → groll n y (k : Int) = some (rotr y k) := fun y k h0 hk => groll_is n y h0 hk
 have r6 := fun y => r y 6 (by decide) (by decide)
 have r11 := fun y => r y 11 (by decide) (by decide)
 have r25 := fun y => r y 25 (by decide) (by decide)
 have r2 := fun y => r y 2 (by decide) (by decide)
 have r13 := fun y => r y 13 (by decide) (by decide)
 have r22 := fun y => r y 22 (by decide) (by decide)
 unfold ground
 simp only [show ((6 : Nat) : Int) = 6 from rfl, show ((11 : Nat) : Int) = 11 from rfl, show ((25 : Nat) : Int) = 25 from rfl, show ((2 : Nat) : Int) = 2 from rfl, show ((13 : Nat) : Int) = 13 from rfl, show ((22 : Nat) : Int) = 22 from rfl] at r6 r11 r25 r2 r13 r22
 rw [r6, r11, r25, r2, r13, r22]
 rfl
theorem gsched_l2_is (n : Nat) (bl : List UInt8) (hl : bl.length = 64) : ∀ (m i fu : Nat), i + m = 64 → 16 ≤ i → m < fu → gsched_l2 n fu (padW (extN (i - 16) (first16 bl))) (i : Int) = some (sched bl) := by
 intro m
 induction m with
 | zero =>
  intro i fu hi h16 hf
  obtain rfl : i = 64 := by omega
  cases fu with
  | zero => omega
  | succ fu => rw [gsched_l2, ite_f (by decide)]; rw [padW_full _ (by rw [length_extN, length_first16])]; rfl
 | succ m ih =>
  intro i fu hi h16 hf
  cases fu with
  | zero => omega
  | succ fu =>
   have r : ∀ (y : UInt32) (k : Nat), 0 < k → k < 32 → groll n y (k : Int) = some (rotr y k) := fun y k h0 hk => groll_is n y h0 hk
   have r7 : ∀ y, groll n y 7 = some (rotr y 7) := fun y => r y 7 (by decide) (by decide)
   have r18 : ∀ y, groll n y 18 = some (rotr y 18) := fun y => r y 18 (by decide) (by decide)
   have r17 : ∀ y, groll n y 17 = some (rotr y 17) := fun y => r y 17 (by decide) (by decide)
   have r19 : ∀ y, groll n y 19 = some (rotr y 19) := fun y => r y 19 (by decide) (by decide)
   have hlen : (extN (i - 16) (first16 bl)).length = i := by rw [length_extN, length_first16]; omega
   have e15 : ((i : Int) - 15).toNat = i - 15 := by omega
   have e2 : ((i : Int) - 2).toNat = i - 2 := by omega
   have e16 : ((i : Int) - 16).toNat = i - 16 := by omega
   have e7 : ((i : Int) - 7).toNat = i - 7 := by omega
   rw [gsched_l2, ite_t (by simp; omega), gd_pos (okI64 (by omega) (by omega)), gd_pos (by omega), gd_pos (by omega), gd_pos (okI64 (by omega) (by omega)), gd_pos (by omega), gd_pos (by omega), gd_pos (okI64 (by omega) (by omega)), gd_pos (by omega), gd_pos (by omega), r7, Option.bind_some, r18, Option.bind_some, gd_pos (by decide), gd_pos (okI64 (by omega) (by omega)), gd_pos (by omega), gd_pos (by omega), r17, Option.bind_some, r19, Option.bind_some, gd_pos (by decide), gd_pos (by omega), gd_pos (by omega), gd_pos (okI64 (by omega) (by omega)), e15, e2, e16, e7, Int.toNat_natCast]
   generalize hws : extN (i - 16) (first16 bl) = ws at hlen
   rw [getD_padW ws _ (by omega), getD_padW ws _ (by omega), getD_padW ws _ (by omega), getD_padW ws _ (by omega)]
   have key := extW_padW ws (by omega)
   have hn : nextW ws = (((ws.getD (i - 16) 0) + ((rotr (ws.getD (i - 15) 0) 7 ^^^ rotr (ws.getD (i - 15) 0) 18) ^^^ (shr32 (ws.getD (i - 15) 0) 3))) + (ws.getD (i - 7) 0)) + ((rotr (ws.getD (i - 2) 0) 17 ^^^ rotr (ws.getD (i - 2) 0) 19) ^^^ (shr32 (ws.getD (i - 2) 0) 10)) := by
    unfold nextW; rw [hlen]; rfl
   rw [hlen, hn] at key
   rw [key]
   have := ih (i + 1) fu (by omega) (by omega) (by omega)
   rw [show i + 1 - 16 = (i - 16) + 1 by omega, extN, hws] at this
   exact this
theorem gsched_l1_is (n : Nat) (hn : 100 ≤ n) (bl : List UInt8) (hl : bl.length = 64) : ∀ (m i fu : Nat), i + m = 64 → m < fu → gsched_l1 n bl fu (packW bl i) (i : Int) = some (sched bl) := by
 intro m
 induction m with
 | zero =>
  intro i fu hi hf
  obtain rfl : i = 64 := by omega
  cases fu with
  | zero => omega
  | succ fu =>
   rw [gsched_l1, ite_f (by decide), packW_all bl hl]
   have := gsched_l2_is n bl hl 48 16 n (by omega) (by omega) (by omega)
   have e : padW (extN (16 - 16) (first16 bl)) = first16 bl ++ Go.Ch.zeros 48 := by
    show padW (first16 bl) = _
    unfold padW; rw [length_first16]
   rw [e] at this
   exact this
 | succ m ih =>
  intro i fu hi hf
  cases fu with
  | zero => omega
  | succ fu =>
   have t1 : Int.tdiv (i : Int) 4 = ((i / 4 : Nat) : Int) := by rw [Int.tdiv_eq_ediv_of_nonneg (by omega)]; omega
   rw [gsched_l1, ite_t (by simp; omega), t1, gd_pos (by omega), gd_pos (by omega), gd_pos (by decide), gd_pos (okI64 (by omega) (by omega)), gd_pos (by decide), gd_pos (okI64 (by omega) (by omega)), gd_pos (by omega), gd_pos (by omega), gd_pos (by decide), gd_pos (by omega), gd_pos (by omega), gd_pos (okI64 (by omega) (by omega)), Int.toNat_natCast, Int.toNat_natCast]
   have e : ∀ (y : UInt32) (b : UInt8), ((shl32 y 8) ||| b.toUInt32) = wadd y b := fun y b => Go.Ch.or_byte y b
   rw [e, packW_step bl i (by omega) hl]
   exact ih (i + 1) fu (by omega) (by omega)
theorem gsched_is {n : Nat} (hn : 100 ≤ n) {bl : List UInt8} (hl : bl.length = 64) : gsched n bl = some (sched bl) := by
 have := gsched_l1_is n hn bl hl 64 0 n (by omega) (by omega)
 rw [packW_zero] at this
 exact this
theorem add8_is (f : Nat → List UInt32 → Int → Option (List UInt32)) (a : Words) (hf : ∀ fu w i, f (fu + 1) w i = bif decide (i < (8 : Int)) then gd (0 ≤ i) (gd (i < (8 : Int)) (gd (0 ≤ i) (gd (i < (8 : Int)) (gd (0 ≤ i) (gd (i < (8 : Int)) (gd (okI .i64 (i + 1)) (f fu (w.set i.toNat (w.getD i.toNat 0 + a.list.getD i.toNat 0)) (i + 1)))))))) else some w) (V : Words) :
  ∀ (m i fu : Nat) (w : List UInt32), i + m = 8 → m < fu → w.length = 8 → (∀ k, k < i → w.getD k 0 = V.list.getD k 0 + a.list.getD k 0) → (∀ k, i ≤ k → w.getD k 0 = V.list.getD k 0) → f fu w (i : Int) = some (addWords V a).list := by
 intro m
 induction m with
 | zero =>
  intro i fu w hi hfu hw h1 h2
  obtain rfl : i = 8 := by omega
  cases fu with
  | zero => omega
  | succ fu =>
   rw [hf, ite_f (by decide), lstE (0 : UInt32) hw]
   congr 1
   show [w.getD 0 0, w.getD 1 0, w.getD 2 0, w.getD 3 0, w.getD 4 0, w.getD 5 0, w.getD 6 0, w.getD 7 0] = _
   rw [h1 0 (by decide), h1 1 (by decide), h1 2 (by decide), h1 3 (by decide), h1 4 (by decide), h1 5 (by decide), h1 6 (by decide), h1 7 (by decide)]
   rfl
 | succ m ih =>
  intro i fu w hi hfu hw h1 h2
  cases fu with
  | zero => omega
  | succ fu =>
   rw [hf, ite_t (by simp; omega), gd_pos (by omega), gd_pos (by omega), gd_pos (by omega), gd_pos (by omega), gd_pos (by omega), gd_pos (by omega), gd_pos (okI64 (by omega) (by omega)), Int.toNat_natCast]
   refine ih (i + 1) fu _ (by omega) (by omega) (by rw [List.length_set]; exact hw) (fun k hk => ?_) (fun k hk => ?_)
   ·by_cases e : k = i
    ·subst e; rw [getD_set_eq _ _ (by omega), h2 k (Nat.le_refl _)]
    ·rw [getD_set_ne _ _ (by omega)]; exact h1 k (by omega)
   ·rw [getD_set_ne _ _ (by omega)]; exact h2 k (by omega)
theorem gpress_l1_is (n : Nat) (hn : 100 ≤ n) (V : Words) (ws : List UInt32) : ∀ (m i fu : Nat), i + m = 64 → m < fu → gpress_l1 n V.list ws fu (roundsN consts ws V i).list (i : Int) = some (addWords (roundsN consts ws V 64) V).list := by
 intro m
 induction m with
 | zero =>
  intro i fu hi hf
  obtain rfl : i = 64 := by omega
  cases fu with
  | zero => omega
  | succ fu =>
   rw [gpress_l1, ite_f (by decide)]
   exact add8_is (gpress_l2 n V.list) V (fun fu w i => by rw [gpress_l2]) _ 8 0 n _ (by omega) (by omega) rfl (fun k hk => by omega) (fun k _ => rfl)
 | succ m ih =>
  intro i fu hi hf
  cases fu with
  | zero => omega
  | succ fu =>
   rw [gpress_l1, ite_t (by simp; omega), gd_pos (by omega), gd_pos (by omega), gd_pos (by omega), gd_pos (by omega), Int.toNat_natCast, ground_is, Option.bind_some, gd_pos (okI64 (by omega) (by omega))]
   exact ih (i + 1) fu (by omega) (by omega)
theorem gpress_is {n : Nat} (hn : 100 ≤ n) (V : Words) {bl : List UInt8} (hl : bl.length = 64) : gpress n V.list bl = some (pressOf consts V bl).list := by
 unfold gpress
 rw [gsched_is hn hl, Option.bind_some]
 exact gpress_l1_is n hn V (sched bl) 64 0 n (by omega) (by omega)
theorem gtail_l1_is (n : Nat) (len : Nat) (hl : len ≤ 100000) (A : List UInt8) (hA : A.length ≤ 1000) : ∀ (m i fu : Nat), i + m = 8 → m < fu → gtail_l1 n (len : Int) fu (A ++ (lenB len).take i) (56 - 8 * (i : Int)) = some (A ++ lenB len, none) := by
 have hb : (lenB len).length = 8 := rfl
 intro m
 induction m with
 | zero =>
  intro i fu hi hf
  cases fu with
  | zero => omega
  | succ fu => rw [gtail_l1, ite_f (by simp; omega), List.take_of_length_le (by omega)]
 | succ m ih =>
  intro i fu hi hf
  cases fu with
  | zero => omega
  | succ fu =>
   have e1 : (56 - 8 * (i : Int)).toNat = 56 - 8 * i := by omega
   rw [gtail_l1, ite_t (by simp; omega), gd_pos (okI64 (by omega) (by omega)), gd_pos (by omega), gd_pos (by simp [IntKind.bits]; omega), gd_pos (by unfold rmB; simp; omega), gd_pos (okI64 (by omega) (by omega)), e1]
   have e2 : UInt8.ofInt ((8 * (len : Int)) / 2 ^ (56 - 8 * i)) = (lenB len).getD i 0 := by
    have : (lenB len).getD i 0 = UInt8.ofNat (8 * len / 2 ^ (56 - 8 * i)) := by
     unfold lenB
     rw [List.getD_eq_getElem?_getD, List.getElem?_map, List.getElem?_range (by omega)]; rfl
    rw [this]
    have h3 : (8 * (len : Int)) / 2 ^ (56 - 8 * i) = ((8 * len / 2 ^ (56 - 8 * i) : Nat) : Int) := by simp
    rw [h3]
    generalize 8 * len / 2 ^ (56 - 8 * i) = q
    refine UInt8.toNat_inj.1 ?_
    simp [UInt8.ofInt]
    omega
   have e3 : (A ++ (lenB len).take i) ++ [(lenB len).getD i 0] = A ++ (lenB len).take (i + 1) := by
    rw [List.append_assoc, List.take_succ_eq_append_getElem (by omega), List.getD_eq_getElem?_getD, List.getElem?_eq_getElem (by omega)]; rfl
   rw [e2, e3, show 56 - 8 * (i : Int) - 8 = 56 - 8 * ((i + 1 : Nat) : Int) by omega]
   exact ih (i + 1) fu (by omega) (by omega)
theorem gtail_l2_is (n : Nat) (hn : 200 ≤ n) (len : Nat) (hl : len ≤ 100000) : ∀ (m i fu : Nat), i + m = (119 - len % 64) % 64 → m < fu → gtail_l2 n (len : Int) fu ([128] ++ List.replicate i 0) = some (tailOf len, none) := by
 intro m
 induction m with
 | zero =>
  intro i fu hi hf
  cases fu with
  | zero => omega
  | succ fu =>
   have e : Int.tmod ((len : Int) + ((([128] ++ List.replicate i 0 : List UInt8).length : Nat) : Int) + 8) 64 = 0 := by
    rw [Int.tmod_eq_emod_of_nonneg (by omega)]; simp; omega
   rw [gtail_l2, gd_pos (okI64 (by simp; omega) (by simp; omega)), gd_pos (okI64 (by simp; omega) (by simp; omega)), gd_pos (by decide), ite_f (by rw [e]; rfl)]
   unfold gtail_j1
   have := gtail_l1_is n len hl ([128] ++ List.replicate i 0) (by simp; omega) 8 0 n (by omega) (by omega)
   rw [List.take_zero, List.append_nil] at this
   rw [show (56 : Int) = 56 - 8 * ((0 : Nat) : Int) by omega, this]
   unfold tailOf
   rw [show i = (119 - len % 64) % 64 by omega]
 | succ m ih =>
  intro i fu hi hf
  cases fu with
  | zero => omega
  | succ fu =>
   have e : Int.tmod ((len : Int) + ((([128] ++ List.replicate i 0 : List UInt8).length : Nat) : Int) + 8) 64 ≠ 0 := by
    rw [Int.tmod_eq_emod_of_nonneg (by omega)]; simp; omega
   rw [gtail_l2, gd_pos (okI64 (by simp; omega) (by simp; omega)), gd_pos (okI64 (by simp; omega) (by simp; omega)), gd_pos (by decide), ite_t (by simpa using e), gd_pos (by unfold rmB; simp; omega), List.append_assoc, show List.replicate i (0 : UInt8) ++ [0] = List.replicate (i + 1) 0 from List.replicate_succ'.symm]
   exact ih (i + 1) fu (by omega) (by omega)
theorem gtail_is {n : Nat} (hn : 200 ≤ n) {len : Nat} (hl : len ≤ 100000) : gtail n (len : Int) = some (tailOf len, none) := by
 unfold gtail
 rw [ite_f (by simp <;> omega), ite_f (by simp <;> omega)]
 exact gtail_l2_is n hn len hl ((119 - len % 64) % 64) 0 n (by omega) (by omega)
theorem gsum_l2_is (n : Nat) (w : List UInt32) (hw : w.length = 8) : ∀ (m j fu : Nat), j + m = 8 → m < fu → gsum_l2 n w fu ((w.take j).flatMap bytesOf) (j : Int) = some (w.flatMap bytesOf) := by
 intro m
 induction m with
 | zero =>
  intro j fu hj hf
  obtain rfl : j = 8 := by omega
  cases fu with
  | zero => omega
  | succ fu => rw [gsum_l2, ite_f (by simp), List.take_of_length_le (by omega)]
 | succ m ih =>
  intro j fu hj hf
  cases fu with
  | zero => omega
  | succ fu =>
   have hl : ∀ (l : List UInt32), (l.flatMap bytesOf).length = 4 * l.length := by
    intro l
    induction l with
    | nil => rfl
    | cons x l ih => simp only [List.flatMap_cons, List.length_append, ih, List.length_cons]; simp [bytesOf]; omega
   have hr : rmB (((w.take j).flatMap bytesOf).length + 4) 1 := by unfold rmB; rw [hl, List.length_take]; omega
   simp only [gsum_l2, Int.toNat_natCast]
   rw [ite_t (by simp; omega), gd_pos (by omega), gd_pos (by omega), gd_pos (by decide), gd_pos (by decide), gd_pos (by decide), gd_pos hr, gd_pos (okI64 (by omega) (by omega))]
   have := ih (j + 1) fu (by omega) (by omega)
   rw [Int.natCast_add, List.take_succ_eq_append_getElem (by omega), List.flatMap_append] at this
   rw [List.getD_eq_getElem?_getD, List.getElem?_eq_getElem (by omega)]
   have eb : ∀ x : UInt32, [(shr32 x 24).toUInt8, (shr32 x 16).toUInt8, (shr32 x 8).toUInt8, x.toUInt8] = bytesOf x := fun x => rfl
   rw [eb]
   simpa using this
theorem gsum_l1_is (n : Nat) (hn : 200 ≤ n) (a : List UInt8) (r : List UInt8 × Option Int) (V : Words) (A : List UInt8) (hA : a ++ r.1 = A) (q : Nat) (hq : A.length = 64 * q) (hA2 : A.length ≤ 1000000) :
  ∀ (m j fu : Nat), j + m = q → m < fu → gsum_l1 n a r fu (pressN consts V A j).list ((64 * j : Nat) : Int) = some ((pressN consts V A q).list.flatMap bytesOf) := by
 intro m
 induction m with
 | zero =>
  intro j fu hj hf
  obtain rfl : j = q := by omega
  cases fu with
  | zero => omega
  | succ fu =>
   simp only [gsum_l1, List.nil_append, Int.toNat_natCast, hA]
   rw [ite_f (by simp; omega)]
   exact gsum_l2_is n _ rfl 8 0 n (by omega) (by omega)
 | succ m ih =>
  intro j fu hj hf
  cases fu with
  | zero => omega
  | succ fu =>
   simp only [gsum_l1, List.nil_append, Int.toNat_natCast, hA]
   rw [ite_t (by simp; omega), gd_pos (by omega), gd_pos (by omega), gd_pos (by omega), gd_pos (by omega), gpress_is (by omega) _ (by rw [List.length_take, List.length_drop]; omega), Option.bind_some, gd_pos (okI64 (by omega) (by omega))]
   have h2 := ih (j + 1) fu (by omega) (by omega)
   rw [show ((64 * (j + 1) : Nat) : Int) = ((64 * j : Nat) : Int) + 64 by omega] at h2
   exact h2
theorem gsum_is {n : Nat} (hn : 100000 ≤ n) {a : List UInt8} (ha : a.length ≤ 100000) : gsum n a = some (digest consts begin8 a) := by
 have hl := length_tailOf a.length
 have hw := whole_tailOf a.length
 unfold gsum
 rw [gtail_is (by omega) ha, Option.bind_some, ite_f (by rfl)]
 dsimp only
 rw [gd_pos (by unfold rmB; omega), gd_pos (by unfold rmB; simp only [List.nil_append]; omega), show gbeg n = some () from rfl, Option.bind_some]
 have hlen : (a ++ tailOf a.length).length = 64 * ((a.length + (tailOf a.length).length) / 64) := by rw [List.length_append]; omega
 exact gsum_l1_is n (by omega) a (tailOf a.length, none) begin8 (a ++ tailOf a.length) rfl _ hlen (by rw [List.length_append]; omega) ((a.length + (tailOf a.length).length) / 64) 0 n (by omega) (by omega)
end Go.Sx
end
section
namespace Go.Sx
open Go Go.RowKit Go.Ch Go.Proofs.YthichmclbiggmaaDoor
theorem wpos {l : List UInt32} (h : l.length ≠ 0) : nV l = nV (l.take (l.length - 1)) + 4294967296 ^ (l.length - 1) * (l.getD (l.length - 1) 0).toNat := by
 have h1 := V_take l (l.length - 1) (by omega)
 rwa [show l.length - 1 + 1 = l.length by omega, List.take_length] at h1
theorem lastD {l : List UInt32} (h : l ≠ []) : l.getLast h = l.getD (l.length - 1) 0 := by
 have : l.length - 1 < l.length := by have := List.length_pos_iff.2 h; omega
 rw [List.getLast_eq_getElem, List.getD_eq_getElem?_getD, List.getElem?_eq_getElem this]; rfl
theorem ptrim_l1_is (n : Nat) (a : List UInt32) (ha : a.length ≤ 1000000) : ∀ (k fu : Nat), k < fu → k ≤ a.length → nV (a.take k) = nV a →
  ∃ m, ptrim_l1 n a fu k = some (a, m) ∧ a.take m = nD (nV a) ∧ m = (nD (nV a)).length := by
 intro k
 have fin : ∀ k, k ≤ a.length → a.take k = nD (nV a) → k = (nD (nV a)).length := fun k h1 h2 => by rw [← h2, List.length_take]; omega
 induction k with
 | zero =>
  intro fu hf hk he
  cases fu with
  | zero => omega
  | succ fu =>
   have h0 : nV a = 0 := by rw [← he]; rfl
   have h1 : a.take 0 = nD (nV a) := by rw [h0, D_zero]; rfl
   exact ⟨0, by rw [ptrim_l1, ite_f (by simp)], h1, fin 0 hk h1⟩
 | succ k ih =>
  intro fu hf hk he
  cases fu with
  | zero => omega
  | succ fu =>
   have e : (((k + 1 : Nat) : Int) - 1).toNat = k := by omega
   rw [ptrim_l1, ite_t (by simp <;> omega), gd_pos (okI64 (by omega) (by omega)), gd_pos (by omega), gd_pos (by omega), e]
   have h1 := V_take a k (by omega)
   by_cases hz : a.getD k 0 = 0
   ·rw [ite_t (by rw [hz]; rfl), gd_pos (okI64 (by omega) (by omega)), gd_pos (by omega), gd_pos (by omega)]
    rw [hz] at h1
    exact ih fu (by omega) (by omega) (by rw [← he, h1]; rfl)
   ·rw [ite_f (by simp only [beq_eq_false_iff_ne]; exact hz)]
    have hl : (a.take (k + 1)).length = k + 1 := by rw [List.length_take]; omega
    have h2 : a.take (k + 1) = nD (nV a) := by
     rw [← he]
     refine (D_V fun hn => ?_).symm
     rw [lastD hn, hl, Nat.add_sub_cancel, List.getD_eq_getElem?_getD, List.getElem?_take_of_lt (by omega), ← List.getD_eq_getElem?_getD]
     exact hz
    exact ⟨k + 1, rfl, h2, fin _ hk h2⟩
theorem ptrim_tk {n : Nat} (hn : 18446744073709551616 ≤ n) {a : List UInt32} (ha : a.length ≤ 1000000) : ptrim n a = some (a, (nD (nV a)).length) ∧ (a.drop 0).take (nD (nV a)).length = nD (nV a) := by
 obtain ⟨m, h1, h2, h3⟩ := ptrim_l1_is n a ha a.length n (by omega) (Nat.le_refl _) (by rw [List.take_length])
 subst h3
 exact ⟨h1, h2⟩
theorem ptrim_is {n : Nat} (hn : 18446744073709551616 ≤ n) {a : List UInt32} (ha : a.length ≤ 1000000) : ptrim n a = some (a, (nD (nV a)).length) := (ptrim_tk hn ha).1
theorem tk {a : List UInt32} (ha : a.length ≤ 1000000) : (a.drop 0).take (nD (nV a)).length = nD (nV a) := (ptrim_tk (n := 18446744073709551616) (Nat.le_refl _) ha).2
theorem D_le {a : List UInt32} : (nD (nV a)).length ≤ a.length := (D_len _ _).2 (V_lt a)
theorem pmay_is {n : Nat} (hn : 18446744073709551616 ≤ n) {a b : List UInt32} (ha : a.length ≤ 1000000) (hb : b.length ≤ 1000000) :
  pmay n a b = some (nD (nV a), (nD (nV a)).length, nD (nV b), (nD (nV b)).length, decide ((nD (nV a)).length ≤ 64 ∧ (nD (nV b)).length ≤ 64)) := by
 unfold pmay
 rw [ptrim_is hn ha, ptrim_is hn hb]
 simp only [Option.bind_some, tk ha, tk hb]
 show (bif decide ((((nD (nV a)).length : Nat) : Int) ≤ 64) then _ else _) = _
 by_cases h : (nD (nV a)).length ≤ 64
 ·rw [ite_t (by simp; omega)]
  congr 5
  simp [h]; omega
 ·rw [ite_f (by simp; omega)]
  simp [h]
theorem cCmp_is (n : Nat) (x y : Int) : cCmp n x y = some (if x < y then -1 else if y < x then 1 else 0) := by
 unfold cCmp cisNaN
 simp only [Option.bind_some, bne_self_eq_false, cond_false]
 by_cases h : x < y
 ·simp [h]
 ·by_cases h2 : y < x <;> simp [h, h2]
theorem cCmp32_is (n : Nat) (x y : UInt32) : cCmp32 n x y = some (if x.toNat < y.toNat then -1 else if y.toNat < x.toNat then 1 else 0) := by
 unfold cCmp32 cisNaN32
 simp only [Option.bind_some, bne_self_eq_false, cond_false, ← UInt32.lt_iff_toNat_lt]
 by_cases h : x < y
 ·simp [h]
 ·by_cases h2 : y < x <;> simp [h, h2]
def cmpN (x y : Nat) : Int := if x < y then -1 else if y < x then 1 else 0
theorem cmpN_lt {x y : Nat} (h : x < y) : cmpN x y = -1 := if_pos h
theorem cmpN_gt {x y : Nat} (h : y < x) : cmpN x y = 1 := by unfold cmpN; rw [if_neg (by omega), if_pos h]
theorem cmpN_eq {x y : Nat} (h : x = y) : cmpN x y = 0 := by unfold cmpN; rw [if_neg (by omega), if_neg (by omega)]
theorem cmpN_neg {x y : Nat} : cmpN x y < 0 ↔ x < y := by unfold cmpN; split <;> (try split) <;> omega
theorem mul_pow_lt {p x y c d : Nat} (hc : c < p) (h : x < y) : c + p * x < d + p * y := by
 have : p * (x + 1) ≤ p * y := Nat.mul_le_mul_left p h
 rw [Nat.mul_add] at this; omega
theorem pCmp_l1_is (n : Nat) (a b x y u v : List UInt32) (lu : Nat) (hu : (a.drop 0).take lu = u) (hv : (b.drop 0).take lu = v) (h1 : u.length = lu) (h2 : v.length = lu) (hlu : lu ≤ 1000000) : ∀ (j fu : Nat), j < fu → j ≤ lu → nV (u.drop j) = nV (v.drop j) →
  pCmp_l1 n a b (x, lu) (y, lu) fu ((j : Int) - 1) = some (cmpN (nV u) (nV v)) := by
 intro j
 induction j with
 | zero =>
  intro fu hf _ he
  cases fu with
  | zero => omega
  | succ fu => rw [pCmp_l1, ite_f (by simp), cmpN_eq (by simpa using he)]
 | succ j ih =>
  intro fu hf hj he
  cases fu with
  | zero => omega
  | succ fu =>
   have e : (((j + 1 : Nat) : Int) - 1) = (j : Int) := by omega
   have e1 := V_drop u j (by omega)
   have e2 := V_drop v j (by omega)
   have s1 := V_split u j
   have s2 := V_split v j
   have l1 := V_lt (u.take j)
   have l2 := V_lt (v.take j)
   have m1 : (u.take j).length = j := by simp; omega
   have m2 : (v.take j).length = j := by simp; omega
   rw [m1] at l1; rw [m2] at l2
   rw [e, pCmp_l1, ite_t (by simp), gd_pos (by omega), gd_pos (by omega), gd_pos (by omega), gd_pos (by omega), cCmp32_is]
   simp only [Option.bind_some, Int.toNat_natCast, hu, hv]
   by_cases hlt : (u.getD j 0).toNat < (v.getD j 0).toNat
   ·rw [if_pos hlt, ite_t (by rfl), cmpN_lt]
    rw [s1, s2]
    exact mul_pow_lt l1 (by omega)
   ·by_cases hgt : (v.getD j 0).toNat < (u.getD j 0).toNat
    ·rw [if_neg hlt, if_pos hgt, ite_t (by rfl), cmpN_gt]
     rw [s1, s2]
     exact mul_pow_lt l2 (by omega)
    ·rw [if_neg hlt, if_neg hgt, ite_f (by rfl), gd_pos (okI64 (by omega) (by omega))]
     exact ih fu (by omega) (by omega) (by omega)
theorem pCmp_is {n : Nat} (hn : 18446744073709551616 ≤ n) {a b : List UInt32} (ha : a.length ≤ 1000000) (hb : b.length ≤ 1000000) : pCmp n a b = some (cmpN (nV a) (nV b)) := by
 have la := D_le (a := a)
 have lb := D_le (a := b)
 unfold pCmp
 rw [ptrim_is hn ha, ptrim_is hn hb]
 simp only [Option.bind_some]
 rw [cCmp_is]
 simp only [Option.bind_some]
 by_cases h : (nD (nV a)).length < (nD (nV b)).length
 ·rw [if_pos (by omega), ite_t (by rfl), cmpN_lt]
  have h1 := (D_len (nV a) (nD (nV a)).length).1 (by omega)
  have h2 := mt (D_len (nV b) (nD (nV a)).length).2 (by omega)
  omega
 ·by_cases h' : (nD (nV b)).length < (nD (nV a)).length
  ·rw [if_neg (by omega), if_pos (by omega), ite_t (by rfl), cmpN_gt]
   have h1 := (D_len (nV b) (nD (nV b)).length).1 (by omega)
   have h2 := mt (D_len (nV a) (nD (nV b)).length).2 (by omega)
   omega
  ·rw [if_neg (by omega), if_neg (by omega), ite_f (by rfl), gd_pos (okI64 (by omega) (by omega))]
   have hl : (nD (nV b)).length = (nD (nV a)).length := by omega
   have := pCmp_l1_is n a b a b (nD (nV a)) (nD (nV b)) (nD (nV a)).length (tk ha) (by rw [← hl]; exact tk hb) rfl hl (by omega) (nD (nV a)).length n (by omega) (by omega) (by
    rw [List.drop_of_length_le (by omega), List.drop_of_length_le (by omega)])
   rw [V_D, V_D] at this
   rw [hl]; exact this
theorem V_take' (l : List UInt32) (i : Nat) : nV (l.take (i + 1)) = nV (l.take i) + 4294967296 ^ i * (l.getD i 0).toNat := by
 by_cases h : i < l.length
 ·exact V_take l i h
 ·rw [List.take_of_length_le (by omega), List.take_of_length_le (by omega), List.getD_eq_getElem?_getD, List.getElem?_eq_none (by omega)]; simp
def Nz (l : List UInt32) (i : Nat) : Prop := ∀ k, i ≤ k → l.getD k 0 = 0
theorem Nz.rep (n : Nat) : Nz (List.replicate n 0) 0 := by
 intro k _
 rw [List.getD_eq_getElem?_getD, List.getElem?_replicate]; split <;> rfl
theorem Nz.set {l : List UInt32} {i : Nat} (h : Nz l i) (x : UInt32) : Nz (l.set i x) (i + 1) := by
 intro k hk
 have := h k (by omega)
 rw [List.getD_eq_getElem?_getD] at *
 rw [List.getElem?_set_ne (by omega)]; exact this
theorem Nz.V_set {l : List UInt32} {i : Nat} (h : Nz l i) (x : UInt32) (hi : i < l.length) : nV (l.set i x) = nV l + 4294967296 ^ i * x.toNat := by
 have := Go.Sx.V_set l i x hi
 rw [h i (by omega)] at this
 simpa using this
theorem shr64_is (x : UInt64) (k : Nat) (h : k < 64) : (shr64 x (k : Int)).toNat = x.toNat / 2 ^ k := by
 unfold shr64
 rw [if_pos (by omega), Int.toNat_natCast, UInt64.toNat_shiftRight]
 have : (UInt64.ofNat k).toNat % 64 = k := by simp; omega
 rw [this, Nat.shiftRight_eq_div_pow]
theorem u64_32 (x : UInt32) : x.toUInt64.toNat = x.toNat := UInt32.toNat_toUInt64 x
theorem u32_64 (x : UInt64) : x.toUInt32.toNat = x.toNat % 4294967296 := UInt64.toNat_toUInt32 x
theorem u64_add (x y : UInt64) : (x + y).toNat = (x.toNat + y.toNat) % 18446744073709551616 := UInt64.toNat_add x y
theorem u64_mul (x y : UInt64) : (x * y).toNat = (x.toNat * y.toNat) % 18446744073709551616 := UInt64.toNat_mul x y
theorem u64_sub (x y : UInt64) : (x - y).toNat = (18446744073709551616 - y.toNat + x.toNat) % 18446744073709551616 := UInt64.toNat_sub x y
theorem u64_lt (x : UInt64) : x.toNat < 18446744073709551616 := x.toNat_lt
theorem pow1 (i : Nat) : 4294967296 ^ (i + 1) = 4294967296 * 4294967296 ^ i := by rw [Nat.pow_succ, Nat.mul_comm]
theorem D_mono {x y : Nat} (h : x ≤ y) : (nD x).length ≤ (nD y).length := (D_len _ _).2 (Nat.lt_of_le_of_lt h ((D_len _ _).1 (Nat.le_refl _)))
theorem pCmp_D {n : Nat} (hn : 18446744073709551616 ≤ n) {x y : Nat} (hx : (nD x).length ≤ 1000000) (hy : (nD y).length ≤ 1000000) : pCmp n (nD x) (nD y) = some (cmpN x y) := by
 have := pCmp_is hn hx hy
 rwa [V_D, V_D] at this
theorem getD_rep0 (n k : Nat) : (List.replicate n (0 : UInt32)).getD k 0 = 0 := Nz.rep n k (Nat.zero_le _)
theorem ptimes_l2_is (n : Nat) (a b : List UInt32) (ha : a.length ≤ 900000) (hb : b.length ≤ 90000) (i : Nat) (hi : i < a.length) (K : List UInt32 → Int → Option (List UInt32 × Nat)) (v0 : Nat) :
  ∀ (m k fu : Nat) (w : List UInt32) (c : UInt64), k + m = b.length → m < fu → w.length = a.length + b.length → Nz w (i + b.length) → nV w + 4294967296 ^ (i + k) * c.toNat = v0 + 4294967296 ^ i * ((a.getD i 0).toNat * nV (b.take k)) → c.toNat < 4294967296 →
  ∃ w' : List UInt32, w'.length = a.length + b.length ∧ Nz w' (i + 1 + b.length) ∧ nV w' = v0 + 4294967296 ^ i * ((a.getD i 0).toNat * nV b) ∧ ptimes_l2 n a b (i : Int) K fu w c (k : Int) = K w' ((i + 1 : Nat) : Int) := by
 intro m
 induction m with
 | zero =>
  intro k fu w c hk hf hw hz hv hc
  cases fu with
  | zero => omega
  | succ fu =>
   refine ⟨w.set (i + b.length) c.toUInt32, by rw [List.length_set]; exact hw, ?_, ?_, ?_⟩
   ·have := hz.set c.toUInt32
    rwa [show i + b.length + 1 = i + 1 + b.length by omega] at this
   ·rw [hz.V_set _ (by omega), u32_64, Nat.mod_eq_of_lt hc]
    rwa [List.take_of_length_le (by omega), show k = b.length by omega] at hv
   ·rw [ptimes_l2, ite_f (by simp; omega), gd_pos (okI64 (by omega) (by omega)), gd_pos (by omega), gd_pos (by omega), gd_pos (okI64 (by omega) (by omega))]
    rw [show ((i : Int) + (b.length : Nat)).toNat = i + b.length by omega]; rfl
 | succ m ih =>
  intro k fu w c hk hf hw hz hv hc
  cases fu with
  | zero => omega
  | succ fu =>
   have e1 : ((i : Int) + (k : Nat)).toNat = i + k := by omega
   rw [ptimes_l2, ite_t (by simp; omega), gd_pos (by omega), gd_pos (by omega), gd_pos (okI64 (by omega) (by omega)), gd_pos (by omega), gd_pos (by omega), gd_pos (okI64 (by omega) (by omega)), gd_pos (by omega), gd_pos (by omega), gd_pos (by omega), gd_pos (okI64 (by omega) (by omega))]
   rw [e1, Int.toNat_natCast, Int.toNat_natCast]
   have hA := u32_lt (a.getD i 0)
   have hB := u32_lt (b.getD k 0)
   have hW := u32_lt (w.getD (i + k) 0)
   have hAB : (a.getD i 0).toNat * (b.getD k 0).toNat ≤ 4294967295 * 4294967295 := Nat.mul_le_mul (by omega) (by omega)
   generalize hs : c + ((a.getD i 0).toUInt64 * (b.getD k 0).toUInt64 + (w.getD (i + k) 0).toUInt64) = s
   have es : s.toNat = c.toNat + ((a.getD i 0).toNat * (b.getD k 0).toNat + (w.getD (i + k) 0).toNat) := by
    rw [← hs, u64_add, u64_add, u64_mul, u64_32, u64_32, u64_32]; omega
   have ec : (shr64 s 32).toNat = s.toNat / 4294967296 := shr64_is s 32 (by decide)
   have hV := V_set w (i + k) s.toUInt32 (by omega)
   refine ih (k + 1) fu _ _ (by omega) (by omega) (by rw [List.length_set]; exact hw) ?_ ?_ (by rw [ec]; omega)
   ·intro q hq
    rw [getD_set_ne _ _ (by omega)]; exact hz q hq
   ·rw [ec, V_take', show i + (k + 1) = (i + k) + 1 by omega, pow1]
    rw [u32_64] at hV
    rw [Nat.pow_add] at *
    have hd := Nat.mod_add_div s.toNat 4294967296
    generalize s.toNat % 4294967296 = x at *
    generalize s.toNat / 4294967296 = y at *
    generalize 4294967296 ^ i = p at *
    generalize 4294967296 ^ k = q at *
    clear ec hs hAB hA hB hW ih
    grind
theorem ptimes_l1_is {n : Nat} (hn : 18446744073709551616 ≤ n) (a b : List UInt32) (ha : a.length ≤ 900000) (hb : b.length ≤ 90000) :
  ∀ (m i fu : Nat) (w : List UInt32), i + m = a.length → m < fu → w.length = a.length + b.length → Nz w (i + b.length) → nV w = nV (a.take i) * nV b →
  ptimes_l1 n a b fu w (i : Int) = some (nD (nV a * nV b), (nD (nV a * nV b)).length) := by
 intro m
 induction m with
 | zero =>
  intro i fu w hi hf hw hz hv
  cases fu with
  | zero => omega
  | succ fu =>
   rw [List.take_of_length_le (by omega)] at hv
   rw [ptimes_l1, ite_f (by simp; omega), ptrim_is hn (by omega)]
   simp only [Option.bind_some, tk (show w.length ≤ 1000000 by omega)]
   rw [hv]
 | succ m ih =>
  intro i fu w hi hf hw hz hv
  cases fu with
  | zero => omega
  | succ fu =>
   rw [ptimes_l1, ite_t (by simp; omega), gd_pos (by omega), gd_pos (by omega)]
   obtain ⟨w', h1, h2, h3, h4⟩ := ptimes_l2_is n a b ha hb i (by omega) (ptimes_l1 n a b fu) (nV w) b.length 0 n w 0 (by omega) (by omega) hw hz (by simp [V_nil]) (by decide)
   have h4' : ptimes_l2 n a b (i : Int) (ptimes_l1 n a b fu) n w 0 0 = _ := h4
   rw [h4']
   refine ih (i + 1) fu w' (by omega) (by omega) h1 h2 ?_
   rw [h3, hv, V_take']; grind
theorem ptimes_is {n : Nat} (hn : 18446744073709551616 ≤ n) {a b : List UInt32} (ha : a.length ≤ 90000) (hb : b.length ≤ 90000) : ptimes n a b = some (nD (nV a * nV b), (nD (nV a * nV b)).length) := by
 unfold ptimes
 rw [gd_pos (okI64 (by omega) (by omega)), gd_pos (by omega), gd_pos (by trivial), gd_pos (by unfold rmB; omega)]
 refine ptimes_l1_is hn a b (by omega) hb a.length 0 n _ (by omega) (by omega) (by simp; omega) ?_ (by simp [V_rep, V_nil])
 intro k _
 exact getD_rep0 _ _
theorem ptimes_D {n : Nat} (hn : 18446744073709551616 ≤ n) {x y : Nat} (hx : (nD x).length ≤ 90000) (hy : (nD y).length ≤ 90000) : ptimes n (nD x) (nD y) = some (nD (x * y), (nD (x * y)).length) := by
 have := ptimes_is hn hx hy
 rwa [V_D, V_D] at this
theorem shl64_or (r : UInt64) (x : UInt32) (h : r.toNat < 4294967296) : ((shl64 r 32) ||| x.toUInt64).toNat = r.toNat * 4294967296 + x.toNat := by
 have hx := u32_lt x
 have e : shl64 r 32 = r <<< 32 := rfl
 rw [e, UInt64.toNat_or, UInt64.toNat_shiftLeft, u64_32]
 have e2 : (32 : UInt64).toNat % 64 = 32 := rfl
 rw [e2, Nat.shiftLeft_eq, Nat.mod_eq_of_lt (by omega)]
 have := Nat.shiftLeft_add_eq_or_of_lt (i := 32) hx r.toNat
 rw [← Nat.shiftLeft_eq, ← this]
theorem pshort_l1_is {n : Nat} (hn : 18446744073709551616 ≤ n) (a : List UInt32) (b : UInt32) (hb : b.toNat ≠ 0) (ha : a.length ≤ 1000000) :
  ∀ (j fu : Nat) (w : List UInt32) (r : UInt64), j < fu → j ≤ a.length → w.length = a.length → (∀ k, k < j → w.getD k 0 = 0) → nV w * b.toNat + 4294967296 ^ j * r.toNat + nV (a.take j) = nV a → r.toNat < b.toNat →
  pshort_l1 n a b fu w r ((j : Int) - 1) = some (nD (nV a / b.toNat), (nD (nV a / b.toNat)).length, nD (nV a % b.toNat), (nD (nV a % b.toNat)).length) := by
 intro j
 have hB := u32_lt b
 induction j with
 | zero =>
  intro fu w r hf hj hw hz hv hr
  cases fu with
  | zero => omega
  | succ fu =>
   simp only [Nat.pow_zero, Nat.one_mul, List.take_zero, V_nil, Nat.add_zero] at hv
   have hq : nV a / b.toNat = nV w := by rw [← hv, Nat.add_comm, Nat.add_mul_div_right _ _ (by omega), Nat.div_eq_of_lt hr, Nat.zero_add]
   have hm : nV a % b.toNat = r.toNat := by rw [← hv, Nat.add_comm, Nat.add_mul_mod_self_right, Nat.mod_eq_of_lt hr]
   have hx : nV [r.toUInt32] = r.toNat := by rw [V_cons, V_nil, u32_64]; omega
   rw [pshort_l1, ite_f (by simp), ptrim_is hn (by omega), ptrim_is hn (by simp)]
   simp only [Option.bind_some, tk (show w.length ≤ 1000000 by omega), tk (show [r.toUInt32].length ≤ 1000000 by simp)]
   rw [hx, hq, hm]
 | succ j ih =>
  intro fu w r hf hj hw hz hv hr
  cases fu with
  | zero => omega
  | succ fu =>
   have hb0 : b.toUInt64 ≠ 0 := fun h => hb (by rw [← u64_32, h]; rfl)
   rw [show ((j + 1 : Nat) : Int) - 1 = (j : Int) by omega, pshort_l1, ite_t (by simp), gd_pos (by omega), gd_pos (by omega), gd_pos (by omega), gd_pos hb0, gd_pos hb0, gd_pos (by omega), gd_pos (by omega), gd_pos (okI64 (by omega) (by omega)), Int.toNat_natCast]
   have hA := u32_lt (a.getD j 0)
   have es := shl64_or r (a.getD j 0) (by omega)
   generalize hs : shl64 r 32 ||| (a.getD j 0).toUInt64 = s at *
   have hV := V_set w j (s / b.toUInt64).toUInt32 (by omega)
   rw [hz j (by omega), u32_64, UInt64.toNat_div, u64_32] at hV
   have hlt : s.toNat / b.toNat < 4294967296 := by
    rw [Nat.div_lt_iff_lt_mul (by omega), es]
    have : r.toNat * 4294967296 + 4294967296 ≤ b.toNat * 4294967296 := by have := Nat.mul_le_mul_right 4294967296 (show r.toNat + 1 ≤ b.toNat by omega); omega
    omega
   rw [Nat.mod_eq_of_lt hlt] at hV
   have hsm : (s % b.toUInt64).toNat = s.toNat % b.toNat := by rw [UInt64.toNat_mod, u64_32]
   refine ih fu _ _ (by omega) (by omega) (by rw [List.length_set]; exact hw) ?_ ?_ (by rw [hsm]; exact Nat.mod_lt _ (by omega))
   ·intro k hk
    rw [getD_set_ne _ _ (by omega)]; exact hz k (by omega)
   ·rw [hsm]
    rw [V_take', pow1] at hv
    have hd := Nat.mod_add_div s.toNat b.toNat
    generalize s.toNat % b.toNat = x at *
    generalize s.toNat / b.toNat = y at *
    generalize 4294967296 ^ j = p at *
    simp only [UInt32.toNat_zero, Nat.mul_zero, Nat.add_zero] at hV
    rw [hV]
    clear hsm hlt hs ih hb0 hz
    grind
theorem pshort_is {n : Nat} (hn : 18446744073709551616 ≤ n) {a : List UInt32} {b : UInt32} (hb : b.toNat ≠ 0) (ha : a.length ≤ 1000000) :
  pshort n a b = some (nD (nV a / b.toNat), (nD (nV a / b.toNat)).length, nD (nV a % b.toNat), (nD (nV a % b.toNat)).length) := by
 unfold pshort
 rw [gd_pos (by omega), gd_pos (by trivial), gd_pos (by unfold rmB; omega), gd_pos (okI64 (by omega) (by omega))]
 exact pshort_l1_is hn a b hb ha a.length n _ 0 (by omega) (Nat.le_refl _) (by simp) (fun k _ => getD_rep0 _ _) (by simp [V_rep]) (by show 0 < _; omega)
def len8 : List UInt8 := [0, 1, 2, 2, 3, 3, 3, 3, 4, 4, 4, 4, 4, 4, 4, 4, 5, 5, 5, 5, 5, 5, 5, 5, 5, 5, 5, 5, 5, 5, 5, 5, 6, 6, 6, 6, 6, 6, 6, 6, 6, 6, 6, 6, 6, 6, 6, 6, 6, 6, 6, 6, 6, 6, 6, 6, 6, 6, 6, 6, 6, 6, 6, 6, 7, 7, 7, 7, 7, 7, 7, 7, 7, 7, 7, 7, 7, 7, 7, 7, 7, 7, 7, 7, 7, 7, 7, 7, 7, 7, 7, 7, 7, 7, 7, 7, 7, 7, 7, 7, 7, 7, 7, 7, 7, 7, 7, 7, 7, 7, 7, 7, 7, 7, 7, 7, 7, 7, 7, 7, 7, 7, 7, 7, 7, 7, 7, 7, 8, 8, 8, 8, 8, 8, 8, 8, 8, 8, 8, 8, 8, 8, 8, 8, 8, 8, 8, 8, 8, 8, 8, 8, 8, 8, 8, 8, 8, 8, 8, 8, 8, 8, 8, 8, 8, 8, 8, 8, 8, 8, 8, 8, 8, 8, 8, 8, 8, 8, 8, 8, 8, 8, 8, 8, 8, 8, 8, 8, 8, 8, 8, 8, 8, 8, 8, 8, 8, 8, 8, 8, 8, 8, 8, 8, 8, 8, 8, 8, 8, 8, 8, 8, 8, 8, 8, 8, 8, 8, 8, 8, 8, 8, 8, 8, 8, 8, 8, 8, 8, 8, 8, 8, 8, 8, 8, 8, 8, 8, 8, 8, 8, 8, 8, 8, 8, 8, 8, 8, 8, 8, 8, 8, 8, 8, 8, 8]
theorem len8_is : ∀ k, k < 256 → (k ≠ 0 → 2 ^ ((len8.getD k 0).toNat - 1) ≤ k ∧ 1 ≤ (len8.getD k 0).toNat) ∧ k < 2 ^ (len8.getD k 0).toNat ∧ (len8.getD k 0).toNat ≤ 8 := by decide +kernel
set_option maxRecDepth 20000 in
theorem blen32_j2_is (n : Nat) (x : UInt32) (i : Nat) (hx : x.toNat < 256) (hi : i ≤ 100) : blen32_j2 n x (i : Int) = some (((i + (len8.getD x.toNat 0).toNat : Nat) : Int)) := by
 have e : x.toUInt8.toNat = x.toNat := by rw [UInt32.toNat_toUInt8]; omega
 have h := (len8_is x.toNat hx).2.2
 show (gd (0 ≤ ((x.toUInt8.toNat : Nat) : Int)) <| gd (((x.toUInt8.toNat : Nat) : Int) < ((len8.length : Nat) : Int)) <| gd (okI .i64 ((i : Int) + (((len8.getD ((x.toUInt8.toNat : Nat) : Int).toNat 0).toNat : Nat) : Int))) <| some ((i : Int) + (((len8.getD ((x.toUInt8.toNat : Nat) : Int).toNat 0).toNat : Nat) : Int))) = _
 rw [e, Int.toNat_natCast, gd_pos (by omega), gd_pos (by show (x.toNat : Int) < 256; omega), gd_pos (okI64 (by omega) (by omega))]
 simp
theorem shr32_is (x : UInt32) (k : Nat) (h : k < 32) : (shr32 x (k : Int)).toNat = x.toNat / 2 ^ k := by
 unfold shr32
 rw [if_pos (by omega), Int.toNat_natCast, UInt32.toNat_shiftRight]
 have : (UInt32.ofNat k).toNat % 32 = k := by simp; omega
 rw [this, Nat.shiftRight_eq_div_pow]
def Bits (x l : Nat) : Prop := 1 ≤ l ∧ 2 ^ (l - 1) ≤ x ∧ x < 2 ^ l
theorem blen32_is (n : Nat) (x : UInt32) (hx : x.toNat ≠ 0) : ∃ l : Nat, l ≤ 32 ∧ Bits x.toNat l ∧ blen32 n x = some (l : Int) := by
 have hX := u32_lt x
 have two : ∀ (y : UInt32) (i : Nat), i ≤ 16 → y.toNat < 65536 → y.toNat ≠ 0 → ∃ l : Nat, l ≤ 16 ∧ Bits y.toNat l ∧ blen32_j1 n y (i : Int) = some ((i + l : Nat) : Int) := by
  intro y i hi hy h0
  unfold blen32_j1
  by_cases h : 256 ≤ y.toNat
  ·have e : (shr32 y 8).toNat = y.toNat / 256 := shr32_is y 8 (by decide)
   rw [ite_t (by simp [UInt32.le_iff_toNat_le]; exact h), gd_pos (by omega), gd_pos (okI64 (by omega) (by omega))]
   have := blen32_j2_is n (shr32 y 8) (i + 8) (by rw [e]; omega) (by omega)
   obtain ⟨h1, h2, h3⟩ := len8_is (shr32 y 8).toNat (by rw [e]; omega)
   obtain ⟨h1, h4⟩ := h1 (by rw [e]; omega)
   generalize (len8.getD (shr32 y 8).toNat 0).toNat = l at *
   refine ⟨8 + l, by omega, ⟨by omega, ?_, ?_⟩, ?_⟩
   ·rw [show 8 + l - 1 = 8 + (l - 1) by omega, Nat.pow_add]
    rw [e] at h1; omega
   ·rw [Nat.pow_add]
    rw [e] at h2; omega
   ·rw [show (i : Int) + 8 = ((i + 8 : Nat) : Int) by omega, this, Nat.add_assoc]
  ·rw [ite_f (by simp [UInt32.le_iff_toNat_le]; exact Nat.lt_of_not_le h)]
   have := blen32_j2_is n y i (by omega) (by omega)
   obtain ⟨h1, h2, h3⟩ := len8_is y.toNat (by omega)
   obtain ⟨h1, h4⟩ := h1 (by omega)
   exact ⟨_, by omega, ⟨h4, h1, h2⟩, this⟩
 unfold blen32
 by_cases h : 65536 ≤ x.toNat
 ·have e : (shr32 x 16).toNat = x.toNat / 65536 := shr32_is x 16 (by decide)
  rw [ite_t (by simp [UInt32.le_iff_toNat_le]; exact h), gd_pos (by omega)]
  obtain ⟨l, h1, ⟨h2, h3, h4⟩, h5⟩ := two (shr32 x 16) 16 (by omega) (by rw [e]; omega) (by rw [e]; omega)
  refine ⟨16 + l, by omega, ⟨by omega, ?_, ?_⟩, h5⟩
  ·rw [show 16 + l - 1 = 16 + (l - 1) by omega, Nat.pow_add]
   rw [e] at h3; omega
  ·rw [Nat.pow_add]
   rw [e] at h4; omega
 ·rw [ite_f (by simp [UInt32.le_iff_toNat_le]; exact Nat.lt_of_not_le h)]
  obtain ⟨l, h1, h2, h3⟩ := two x 0 (by omega) (by omega) hx
  exact ⟨l, by omega, h2, by simpa using h3⟩
theorem bclz32_is (n : Nat) (x : UInt32) (hx : x.toNat ≠ 0) : ∃ s : Nat, s < 32 ∧ 2147483648 ≤ x.toNat * 2 ^ s ∧ x.toNat * 2 ^ s < 4294967296 ∧ bclz32 n x = some (s : Int) := by
 obtain ⟨l, h1, ⟨h2, h3, h4⟩, h5⟩ := blen32_is n x hx
 refine ⟨32 - l, by omega, ?_, ?_, ?_⟩
 ·have := Nat.mul_le_mul_right (2 ^ (32 - l)) h3
  rw [← Nat.pow_add, show l - 1 + (32 - l) = 31 by omega] at this
  exact this
 ·have := (Nat.mul_lt_mul_right (Nat.pow_pos (n := 32 - l) (show 0 < 2 by decide))).2 h4
  rw [← Nat.pow_add, show l + (32 - l) = 32 by omega] at this
  exact this
 ·unfold bclz32
  rw [h5]
  show gd (okI .i64 (32 - (l : Int))) _ = _
  rw [gd_pos (okI64 (by omega) (by omega)), show (32 : Int) - l = ((32 - l : Nat) : Int) by omega]
theorem shl32_or (o x : UInt32) (s : Nat) (hs : s < 32) (ho : o.toNat < 2 ^ s) : (o ||| shl32 x (s : Int)).toNat = o.toNat + x.toNat * 2 ^ s % 4294967296 := by
 have hX := u32_lt x
 have e : (shl32 x (s : Int)).toNat = x.toNat * 2 ^ s % 4294967296 := by
  unfold shl32
  rw [if_pos (by omega), Int.toNat_natCast, UInt32.toNat_shiftLeft]
  have : (UInt32.ofNat s).toNat % 32 = s := by simp; omega
  rw [this, Nat.shiftLeft_eq]
 have e2 : x.toNat * 2 ^ s % 4294967296 = (x.toNat % 2 ^ (32 - s)) <<< s := by
  rw [Nat.shiftLeft_eq, show (4294967296 : Nat) = 2 ^ (32 - s) * 2 ^ s by rw [← Nat.pow_add, show 32 - s + s = 32 by omega], Nat.mul_mod_mul_right]
 rw [UInt32.toNat_or, e, e2, Nat.or_comm, ← Nat.shiftLeft_add_eq_or_of_lt ho, Nat.add_comm]
theorem shr_shl (x : UInt32) (s : Nat) (hs : s ≤ 32) : (shl64 x.toUInt64 (s : Int)).toNat = x.toNat * 2 ^ s := by
 have hX := u32_lt x
 unfold shl64
 rw [if_pos (by omega), Int.toNat_natCast, UInt64.toNat_shiftLeft, u64_32]
 have : (UInt64.ofNat s).toNat % 64 = s := by simp; omega
 rw [this, Nat.shiftLeft_eq, Nat.mod_eq_of_lt]
 have h1 : 2 ^ s ≤ 2 ^ 32 := Nat.pow_le_pow_right (by decide) hs
 have h2 := Nat.mul_le_mul (show _ ≤ 4294967295 from Nat.le_of_lt_succ hX) h1
 omega
theorem pshift_l1_is (n : Nat) (a : List UInt32) (s : Nat) (hs : s < 32) (ha : a.length ≤ 1000000) : ∀ (m i fu : Nat) (w : List UInt32), i + m = a.length → m < fu → w.length = a.length + 1 → Nz w (i + 1) → (w.getD i 0).toNat < 2 ^ s → nV w = 2 ^ s * nV (a.take i) →
  ∃ u, pshift_l1 n a (s : Int) fu w (i : Int) = some (u, a.length + 1) ∧ u.length = a.length + 1 ∧ nV u = 2 ^ s * nV a := by
 intro m
 induction m with
 | zero =>
  intro i fu w hi hf hw hz hl hv
  cases fu with
  | zero => omega
  | succ fu =>
   rw [List.take_of_length_le (by omega)] at hv
   exact ⟨w, by rw [pshift_l1, ite_f (by simp; omega)]; rfl, hw, hv⟩
 | succ m ih =>
  intro i fu w hi hf hw hz hl hv
  cases fu with
  | zero => omega
  | succ fu =>
   have e1 : ((i : Int) + 1).toNat = i + 1 := by omega
   rw [pshift_l1, ite_t (by simp; omega), gd_pos (by omega), gd_pos (by omega), gd_pos (by omega), gd_pos (by omega), gd_pos (by omega), gd_pos (by omega), gd_pos (by omega), gd_pos (okI64 (by omega) (by omega)), gd_pos (by omega), gd_pos (by omega), gd_pos (by omega), gd_pos (by omega), gd_pos (okI64 (by omega) (by omega)), e1, Int.toNat_natCast]
   have hX := u32_lt (a.getD i 0)
   have es := shl32_or (w.getD i 0) (a.getD i 0) s hs hl
   generalize hx : w.getD i 0 ||| shl32 (a.getD i 0) (s : Int) = x at *
   have ey : ((shr64 (shl64 ((a.getD i 0).toUInt64) (s : Int)) 32).toUInt32).toNat = (a.getD i 0).toNat * 2 ^ s / 4294967296 := by
    rw [u32_64]
    have := shr64_is (shl64 ((a.getD i 0).toUInt64) (s : Int)) 32 (by decide)
    rw [shr_shl _ _ (by omega)] at this
    rw [show shr64 (shl64 (a.getD i 0).toUInt64 ↑s) 32 = shr64 (shl64 (a.getD i 0).toUInt64 ↑s) ((32 : Nat) : Int) from rfl, this]
    have h1 : 2 ^ s ≤ 2 ^ 32 := Nat.pow_le_pow_right (by decide) (by omega)
    have h2 := Nat.mul_le_mul (show _ ≤ 4294967295 from Nat.le_of_lt_succ hX) h1
    omega
   generalize hy : (shr64 (shl64 ((a.getD i 0).toUInt64) (s : Int)) 32).toUInt32 = y at *
   have hyl : y.toNat < 2 ^ s := by
    rw [ey, Nat.div_lt_iff_lt_mul (by decide), Nat.mul_comm]
    exact Nat.mul_lt_mul_of_pos_left hX (Nat.pow_pos (by decide))
   have h1 := V_set w i x (by omega)
   have h2 := V_set (w.set i x) (i + 1) y (by rw [List.length_set]; omega)
   rw [getD_set_ne _ _ (by omega), hz (i + 1) (by omega)] at h2
   refine ih (i + 1) fu _ (by omega) (by omega) (by simp; exact hw) ?_ ?_ ?_
   ·intro k hk
    rw [getD_set_ne _ _ (by omega), getD_set_ne _ _ (by omega)]; exact hz k (by omega)
   ·rw [getD_set_eq _ _ (by rw [List.length_set]; omega)]; exact hyl
   ·rw [V_take']
    rw [es] at h1
    rw [ey, pow1] at h2
    have hd := Nat.mod_add_div ((a.getD i 0).toNat * 2 ^ s) 4294967296
    generalize (a.getD i 0).toNat * 2 ^ s % 4294967296 = d at *
    generalize hq : (a.getD i 0).toNat * 2 ^ s / 4294967296 = q at *
    generalize 4294967296 ^ i = p at *
    simp only [UInt32.toNat_zero, Nat.mul_zero, Nat.add_zero] at h2
    rw [h2]
    clear ih hx hy hz hl hq
    grind
theorem pshift_is {n : Nat} (hn : 18446744073709551616 ≤ n) {a : List UInt32} {s : Nat} (hs : s < 32) (ha : a.length ≤ 100000) :
  ∃ u, pshift n a (s : Int) = some (u, a.length + 1) ∧ u.length = a.length + 1 ∧ nV u = 2 ^ s * nV a := by
 unfold pshift
 rw [gd_pos (okI64 (by omega) (by omega)), gd_pos (by omega), gd_pos (by trivial), gd_pos (by unfold rmB; omega)]
 refine pshift_l1_is n a s hs (by omega) a.length 0 n _ (by omega) (by omega) (by simp) (fun k _ => getD_rep0 _ _) ?_ (by simp [V_rep, V_nil])
 rw [getD_rep0]; exact Nat.pow_pos (by decide)
theorem digit_dn {q r uu v1 : Nat} (h : q * v1 + r = uu) (h2 : 0 < q) : (q - 1) * v1 + (r + v1) = uu := by
 obtain ⟨q, rfl⟩ : ∃ k, q = k + 1 := ⟨q - 1, by omega⟩
 simp only [Nat.add_sub_cancel]; grind
theorem digit_top {p N vl M ul q : Nat} (hvl : vl < p) (hN : 0 < N) (hq : q * N ≤ M) (hqN : q ≤ N) : q ≤ (M * p + ul) / (N * p + vl) + 1 := by
 cases q with
 | zero => exact Nat.zero_le _
 | succ q =>
  have hpos : 0 < N * p + vl := by have := Nat.mul_pos hN (show 0 < p by omega); omega
  have : q ≤ (M * p + ul) / (N * p + vl) := by
   rw [Nat.le_div_iff_mul_le hpos]
   have h1 : q * vl ≤ N * p := Nat.mul_le_mul (by omega) (by omega)
   have h2 := Nat.mul_le_mul_right p hq
   have h3 : (q + 1) * N * p = q * (N * p) + N * p := by grind
   have h4 : q * (N * p + vl) = q * (N * p) + q * vl := Nat.mul_add _ _ _
   omega
  omega
theorem digit_lo {p N vl M ul q : Nat} (hul : ul < p) (hq : M < q * N) : (M * p + ul) / (N * p + vl) < q := by
 have hN : 0 < N := by
  cases N with
  | zero => simp at hq
  | succ N => omega
 have hpos : 0 < N * p + vl := by have := Nat.mul_pos hN (show 0 < p by omega); omega
 rw [Nat.div_lt_iff_lt_mul hpos]
 have h1 := Nat.mul_le_mul_right p (show M + 1 ≤ q * N from hq)
 have h2 : q * (N * p + vl) = q * N * p + q * vl := by grind
 have h3 : (M + 1) * p = M * p + p := by grind
 have := Nat.zero_le (q * vl)
 omega
structure Dig (u1 u2 u3 v1 v2 Q : Nat) : Prop where
 lo : ∀ q, (u1 * 4294967296 + u2) * 4294967296 + u3 < q * (v1 * 4294967296 + v2) → Q < q
 hi : ∀ q, q ≤ 4294967297 → q * (v1 * 4294967296 + v2) ≤ (u1 * 4294967296 + u2) * 4294967296 + u3 → q ≤ Q + 1
 b : Q < 4294967296
 t : u1 ≤ v1
 v : 2147483648 ≤ v1
theorem dig_of {p u1 u2 u3 ul v1 v2 vl : Nat} (hul : ul < p) (hvl : vl < p) (hv : 2147483648 ≤ v1) (hv2 : v2 < 4294967296)
  (hW : (((u1 * 4294967296 + u2) * 4294967296 + u3) * p + ul) < 4294967296 * ((v1 * 4294967296 + v2) * p + vl)) :
  Dig u1 u2 u3 v1 v2 ((((u1 * 4294967296 + u2) * 4294967296 + u3) * p + ul) / ((v1 * 4294967296 + v2) * p + vl)) := by
 have hpos : 0 < (v1 * 4294967296 + v2) * p + vl := by have := Nat.mul_pos (show 0 < v1 * 4294967296 + v2 by omega) (show 0 < p by omega); omega
 refine ⟨fun q h => digit_lo hul h, fun q h1 h2 => digit_top hvl (by omega) h2 (by omega), ?_, ?_, hv⟩
 ·rw [Nat.div_lt_iff_lt_mul hpos]; exact hW
 ·refine Nat.le_of_not_lt fun h => ?_
  have h1 : (v1 + 1) * (4294967296 * 4294967296 * p) ≤ u1 * (4294967296 * 4294967296 * p) := Nat.mul_le_mul_right _ h
  have h2 : v2 * p + p ≤ 4294967296 * p := by
   have := Nat.mul_le_mul_right p (show v2 + 1 ≤ 4294967296 from hv2)
   rwa [Nat.add_mul, Nat.one_mul] at this
  have h3 : ((u1 * 4294967296 + u2) * 4294967296 + u3) * p + ul = u1 * (4294967296 * 4294967296 * p) + (u2 * 4294967296 * p + u3 * p + ul) := by grind
  have h4 : 4294967296 * ((v1 * 4294967296 + v2) * p + vl) = v1 * (4294967296 * 4294967296 * p) + 4294967296 * (v2 * p + vl) := by grind
  have h5 : (v1 + 1) * (4294967296 * 4294967296 * p) = v1 * (4294967296 * 4294967296 * p) + 4294967296 * 4294967296 * p := by grind
  rw [h3, h4] at hW
  rw [h5] at h1
  generalize u2 * 4294967296 * p + u3 * p + ul = x at *
  generalize u1 * (4294967296 * 4294967296 * p) = y at *
  generalize v1 * (4294967296 * 4294967296 * p) = z at *
  have h6 : 4294967296 * 4294967296 * p = 4294967296 * (4294967296 * p) := by grind
  rw [h6] at h1
  generalize v2 * p = a at *
  generalize 4294967296 * p = c at *
  omega
theorem dig_a {B r x y u3 uu : Nat} (h : x + r = uu) (ht : r * B + u3 < y) : uu * B + u3 < x * B + y := by
 subst h; rw [Nat.add_mul]; omega
theorem dig_b {B r x y u3 uu : Nat} (h : x + r = uu) (ht : ¬ r * B + u3 < y) : x * B + y ≤ uu * B + u3 := by
 subst h; rw [Nat.add_mul]; omega
theorem pdigit_l1_is (n : Nat) (u v : List UInt32) (j : Nat) (hv : 2 ≤ v.length) (hvl : v.length ≤ 100000) (hu : u.length ≤ 1000000) (hj : j + v.length < u.length) (Q : Nat)
  (hD : Dig (u.getD (j + v.length) 0).toNat (u.getD (j + v.length - 1) 0).toNat (u.getD (j + v.length - 2) 0).toNat (v.getD (v.length - 1) 0).toNat (v.getD (v.length - 2) 0).toNat Q) :
  ∀ (fu : Nat) (q r : UInt64), q.toNat < fu → Q ≤ q.toNat → q.toNat ≤ 4294967297 → q.toNat * (v.getD (v.length - 1) 0).toNat + r.toNat = (u.getD (j + v.length) 0).toNat * 4294967296 + (u.getD (j + v.length - 1) 0).toNat → r.toNat < 4294967296 →
  ∃ q' : UInt64, pdigit_l1 n u v (j : Int) fu q r = some q' ∧ Q ≤ q'.toNat ∧ q'.toNat ≤ Q + 1 ∧ q'.toNat < 4294967296 := by
 intro fu
 have h1 := u32_lt (u.getD (j + v.length) 0)
 have h2 := u32_lt (u.getD (j + v.length - 1) 0)
 have h3 := u32_lt (u.getD (j + v.length - 2) 0)
 have h4 := u32_lt (v.getD (v.length - 1) 0)
 have h5 := u32_lt (v.getD (v.length - 2) 0)
 have e1 : (((v.length : Nat) : Int) - 1).toNat = v.length - 1 := by omega
 have e2 : (((v.length : Nat) : Int) - 2).toNat = v.length - 2 := by omega
 have e3 : ((((j : Nat) : Int) + ((v.length : Nat) : Int)) - 2).toNat = j + v.length - 2 := by omega
 induction fu with
 | zero => intro q r h; omega
 | succ fu ih =>
  intro q r hf hQ hq huu hr
  have es : (shr64 q 32).toNat = q.toNat / 4294967296 := shr64_is q 32 (by decide)
  have er : (r + (v.getD (v.length - 1) 0).toUInt64).toNat = r.toNat + (v.getD (v.length - 1) 0).toNat := by rw [u64_add, u64_32]; omega
  have esr : (shr64 (r + (v.getD (v.length - 1) 0).toUInt64) 32).toNat = (r.toNat + (v.getD (v.length - 1) 0).toNat) / 4294967296 := by
   rw [← er]; exact shr64_is _ 32 (by decide)
  -- one less
  have down : Q < q.toNat → (gd (0 ≤ (32 : Int)) <|
    bif (decide ((0 : UInt64) < (shr64 (r + ((v.getD ((((v.length : Nat) : Int) - 1).toNat) 0).toUInt64)) 32))) then
     pdigit_j1 n (q - (1 : UInt64))
    else
     (pdigit_l1 n u v (j : Int) fu) (q - (1 : UInt64)) (r + ((v.getD ((((v.length : Nat) : Int) - 1).toNat) 0).toUInt64))) = (gd (0 ≤ (32 : Int)) <|
    bif (decide ((0 : UInt64) < (shr64 (r + ((v.getD ((((v.length : Nat) : Int) - 1).toNat) 0).toUInt64)) 32))) then
     pdigit_j1 n (q - (1 : UInt64))
    else
     (pdigit_l1 n u v (j : Int) fu) (q - (1 : UInt64)) (r + ((v.getD ((((v.length : Nat) : Int) - 1).toNat) 0).toUInt64))) → ∃ q' : UInt64, (gd (0 ≤ (32 : Int)) <|
    bif (decide ((0 : UInt64) < (shr64 (r + ((v.getD ((((v.length : Nat) : Int) - 1).toNat) 0).toUInt64)) 32))) then
     pdigit_j1 n (q - (1 : UInt64))
    else
     (pdigit_l1 n u v (j : Int) fu) (q - (1 : UInt64)) (r + ((v.getD ((((v.length : Nat) : Int) - 1).toNat) 0).toUInt64))) = some q' ∧ Q ≤ q'.toNat ∧ q'.toNat ≤ Q + 1 ∧ q'.toNat < 4294967296 := by
   intro hlt _
   have eq1 : (q - 1).toNat = q.toNat - 1 := by rw [u64_sub]; have := u64_lt q; show (18446744073709551616 - 1 + _) % _ = _; omega
   have hd := digit_dn huu (by omega)
   rw [gd_pos (by omega), e1]
   by_cases hb : 4294967296 ≤ r.toNat + (v.getD (v.length - 1) 0).toNat
   ·rw [ite_t (by simp only [decide_eq_true_eq, decide_eq_false_iff_not, UInt64.lt_iff_toNat_lt, esr, UInt64.toNat_zero]; omega)]
    have hqB : q.toNat - 1 < 4294967296 := by
     refine Nat.lt_of_not_le fun h => ?_
     have := Nat.mul_le_mul_right (v.getD (v.length - 1) 0).toNat h
     have := hD.t
     omega
    refine ⟨q - 1, rfl, by omega, ?_, by omega⟩
    rw [eq1]
    refine hD.hi _ (by omega) ?_
    have h6 : (q.toNat - 1) * (v.getD (v.length - 2) 0).toNat ≤ 4294967295 * 4294967295 := Nat.mul_le_mul (by omega) (by omega)
    rw [Nat.mul_add, ← Nat.mul_assoc]
    omega
   ·rw [ite_f (by simp only [decide_eq_true_eq, decide_eq_false_iff_not, UInt64.lt_iff_toNat_lt, esr, UInt64.toNat_zero]; omega)]
    exact ih (q - 1) _ (by omega) (by omega) (by omega) (by rw [eq1, er]; exact hd) (by rw [er]; omega)
  rw [pdigit_l1, gd_pos (by omega)]
  by_cases hqB : 4294967296 ≤ q.toNat
  ·rw [ite_t (by simp only [decide_eq_true_eq, decide_eq_false_iff_not, UInt64.lt_iff_toNat_lt, es, UInt64.toNat_zero]; omega)]
   exact down (by have := hD.b; omega) rfl
  ·rw [ite_f (by simp only [decide_eq_true_eq, decide_eq_false_iff_not, UInt64.lt_iff_toNat_lt, es, UInt64.toNat_zero]; omega), gd_pos (okI64 (by omega) (by omega)), gd_pos (by omega), gd_pos (by omega), gd_pos (by omega), gd_pos (okI64 (by omega) (by omega)), gd_pos (okI64 (by omega) (by omega)), gd_pos (by omega), gd_pos (by omega), e2, e3]
   have eo := shl64_or r (u.getD (j + v.length - 2) 0) hr
   have hqv : q.toNat * (v.getD (v.length - 2) 0).toNat ≤ 4294967295 * 4294967295 := Nat.mul_le_mul (by omega) (by omega)
   have em : (q * (v.getD (v.length - 2) 0).toUInt64).toNat = q.toNat * (v.getD (v.length - 2) 0).toNat := by rw [u64_mul, u64_32]; omega
   by_cases ht : r.toNat * 4294967296 + (u.getD (j + v.length - 2) 0).toNat < q.toNat * (v.getD (v.length - 2) 0).toNat
   ·rw [ite_t (by simp only [decide_eq_true_eq, UInt64.lt_iff_toNat_lt]; rw [eo, em]; exact ht)]
    refine down (hD.lo _ ?_) rfl
    rw [Nat.mul_add, ← Nat.mul_assoc]
    clear hqv em eo hD ih down
    generalize q.toNat * (v.getD (v.length - 1) 0).toNat = x at *
    generalize q.toNat * (v.getD (v.length - 2) 0).toNat = y at *
    exact dig_a huu ht
   ·rw [ite_f (by simp only [decide_eq_false_iff_not, UInt64.lt_iff_toNat_lt]; rw [eo, em]; exact ht)]
    refine ⟨q, rfl, hQ, hD.hi _ (by omega) ?_, by omega⟩
    rw [Nat.mul_add, ← Nat.mul_assoc]
    exact dig_b huu ht
theorem pdigit_is {n : Nat} (hn : 18446744073709551616 ≤ n) {u v : List UInt32} {j : Nat} (hv : 2 ≤ v.length) (hvl : v.length ≤ 100000) (hu : u.length ≤ 1000000) (hj : j + v.length < u.length) {Q : Nat}
  (hD : Dig (u.getD (j + v.length) 0).toNat (u.getD (j + v.length - 1) 0).toNat (u.getD (j + v.length - 2) 0).toNat (v.getD (v.length - 1) 0).toNat (v.getD (v.length - 2) 0).toNat Q) :
  ∃ q' : UInt64, pdigit n u v (j : Int) = some q' ∧ Q ≤ q'.toNat ∧ q'.toNat ≤ Q + 1 ∧ q'.toNat < 4294967296 := by
 have h1 := u32_lt (u.getD (j + v.length) 0)
 have h2 := u32_lt (u.getD (j + v.length - 1) 0)
 have h3 := u32_lt (u.getD (j + v.length - 2) 0)
 have h4 := u32_lt (v.getD (v.length - 1) 0)
 have h5 := u32_lt (v.getD (v.length - 2) 0)
 have e1 : (((v.length : Nat) : Int) - 1).toNat = v.length - 1 := by omega
 have e2 : ((((j : Nat) : Int) + ((v.length : Nat) : Int))).toNat = j + v.length := by omega
 have e3 : ((((j : Nat) : Int) + ((v.length : Nat) : Int)) - 1).toNat = j + v.length - 1 := by omega
 have hv1 := hD.v
 have h0 : ((v.getD (v.length - 1) 0).toUInt64) ≠ 0 := fun h => by have := congrArg UInt64.toNat h; rw [u64_32, UInt64.toNat_zero] at this; omega
 unfold pdigit
 rw [e1, e2, e3, gd_pos (okI64 (by omega) (by omega)), gd_pos (by omega), gd_pos (by omega), gd_pos (okI64 (by omega) (by omega)), gd_pos (by omega), gd_pos (by omega), gd_pos (by omega), gd_pos (okI64 (by omega) (by omega)), gd_pos (okI64 (by omega) (by omega)), gd_pos (by omega), gd_pos (by omega), gd_pos h0, gd_pos h0]
 have hx : ((u.getD (j + v.length) 0).toUInt64).toNat < 4294967296 := by rw [u64_32]; exact h1
 have es := shl64_or _ (u.getD (j + v.length - 1) 0) hx
 rw [u64_32] at es
 generalize hs : shl64 ((u.getD (j + v.length) 0).toUInt64) 32 ||| (u.getD (j + v.length - 1) 0).toUInt64 = s at *
 have ed : (s / (v.getD (v.length - 1) 0).toUInt64).toNat = s.toNat / (v.getD (v.length - 1) 0).toNat := by rw [UInt64.toNat_div, u64_32]
 have em : (s % (v.getD (v.length - 1) 0).toUInt64).toNat = s.toNat % (v.getD (v.length - 1) 0).toNat := by rw [UInt64.toNat_mod, u64_32]
 have hdm := Nat.mod_add_div s.toNat (v.getD (v.length - 1) 0).toNat
 have hml := Nat.mod_lt s.toNat (show 0 < (v.getD (v.length - 1) 0).toNat by omega)
 have hq1 : s.toNat / (v.getD (v.length - 1) 0).toNat ≤ 4294967297 := by
  refine Nat.le_of_lt_succ ?_
  rw [Nat.div_lt_iff_lt_mul (by omega)]
  have := hD.t
  omega
 refine pdigit_l1_is n u v j hv hvl hu hj Q hD n _ _ (by rw [ed]; omega) ?_ (by rw [ed]; exact hq1) (by rw [ed, em, Nat.mul_comm, Nat.add_comm]; rw [← es]; exact hdm) (by rw [em]; omega)
 rw [ed]
 refine Nat.le_of_lt_succ (hD.lo _ ?_)
 generalize s.toNat / (v.getD (v.length - 1) 0).toNat = q at *
 have h6 : s.toNat + 1 ≤ (q + 1) * (v.getD (v.length - 1) 0).toNat := by rw [Nat.add_mul, Nat.mul_comm q]; omega
 have h7 := Nat.mul_le_mul_right 4294967296 h6
 show _ < (q + 1) * _
 rw [Nat.mul_add, ← Nat.mul_assoc, ← es]
 omega
theorem ofInt32 (t : Int) : (UInt32.ofInt t).toNat = (t % 4294967296).toNat := by
 simp [UInt32.ofInt]; omega
theorem wrapI64 {x : Nat} (h : x < 9223372036854775808) : IntKind.i64.wrap (x : Int) = x := okI64 (by omega) (by omega)
theorem sub_step {u c p : Nat} (hu : u < 4294967296) (hc : c ≤ 4294967296) :
  ∃ d : Nat, d ≤ 2 ∧ (((u : Int) - (c : Int)) - ((p % 4294967296 : Nat) : Int)) / 2 ^ 32 = -(d : Int) ∧ u + d * 4294967296 = c + p % 4294967296 + (UInt32.ofInt (((u : Int) - (c : Int)) - ((p % 4294967296 : Nat) : Int))).toNat := by
 have hp : p % 4294967296 < 4294967296 := Nat.mod_lt _ (by decide)
 rw [ofInt32]
 generalize p % 4294967296 = x at *
 refine ⟨(-((((u : Int) - (c : Int)) - ((x : Nat) : Int)) / 2 ^ 32)).toNat, ?_, ?_, ?_⟩ <;> omega
structure Win (w w' : List UInt32) (j n : Nat) : Prop where
 len : w'.length = w.length
 lo : w'.take j = w.take j
 hi : w'.drop (j + n + 1) = w.drop (j + n + 1)
theorem Win.refl (w : List UInt32) (j n : Nat) : Win w w j n := ⟨rfl, rfl, rfl⟩
theorem Win.set {w w' : List UInt32} {j n : Nat} (h : Win w w' j n) {k : Nat} (x : UInt32) (h1 : j ≤ k) (h2 : k ≤ j + n) : Win w (w'.set k x) j n :=
 ⟨by rw [List.length_set]; exact h.len, by rw [List.take_set_of_le h1]; exact h.lo, by rw [List.drop_set_of_lt (by omega)]; exact h.hi⟩
theorem Win.eq {w w' : List UInt32} {j n : Nat} (h : Win w w' j n) (h0 : nV (w.drop (j + n + 1)) = 0) : nV w' = nV (w.take j) + 4294967296 ^ j * nV (w'.drop j) ∧ nV (w'.drop j) < 4294967296 ^ (n + 1) := by
 refine ⟨by rw [← h.lo]; exact V_split w' j, ?_⟩
 have h1 := V_split (w'.drop j) (n + 1)
 rw [List.drop_drop, show j + (n + 1) = j + n + 1 by omega, h.hi, h0] at h1
 have h2 := V_lt ((w'.drop j).take (n + 1))
 rw [List.length_take] at h2
 have h3 : 4294967296 ^ (min (n + 1) (w'.drop j).length) ≤ 4294967296 ^ (n + 1) := Nat.pow_le_pow_right (by decide) (by omega)
 omega
theorem pdivide_l2_is (n : Nat) (a b vf : List UInt32) (vl ul : Nat) (s : Int) (o : List UInt32) (r53 : List UInt32) (j : Nat) (q : UInt64) (K : List UInt32 → List UInt32 → Int → Option (List UInt32 × Nat × List UInt32 × Nat)) (u0 : List UInt32)
  (hbl : b.length ≤ 1000000) (hju : j + b.length < ul) (hul : ul ≤ 1000000) (h0 : u0.length = ul) (hq : q.toNat < 4294967296) (hvl : ((vf.drop 0).take b.length).length = b.length) :
  ∀ (m i fu : Nat) (w : List UInt32) (c : Nat), i + m = b.length → m < fu → Win u0 w j b.length → c ≤ 4294967296 → (∀ k, j + i ≤ k → w.getD k 0 = u0.getD k 0) →
  nV w + 4294967296 ^ j * (q.toNat * nV (((vf.drop 0).take b.length).take i)) = nV u0 + 4294967296 ^ (j + i) * c →
  ∃ (w' : List UInt32) (t : Bool), Win u0 w' j b.length ∧ nV w' + 4294967296 ^ j * (q.toNat * nV ((vf.drop 0).take b.length)) = nV u0 + (if t then 4294967296 ^ (j + b.length + 1) else 0) ∧
  pdivide_l2 n a b s (vf, vl) (r53, ul) o (j : Int) q K fu w (c : Int) (i : Int) = (bif t then pdivide_l3 n a b s (vf, vl) (r53, ul) o (j : Int) q K n w' 0 0 else pdivide_j1 n a b s (vf, vl) (r53, ul) o (j : Int) K w' q) := by
 generalize hv : ((vf.drop 0).take b.length) = v at *
 intro m
 induction m with
 | zero =>
  intro i fu w c hi hf hw hc hs hr
  cases fu with
  | zero => omega
  | succ fu =>
   have hwl := hw.len
   have e1 : ((j : Int) + ((b.length : Nat) : Int)).toNat = j + b.length := by omega
   have hU := u32_lt (w.getD (j + b.length) 0)
   rw [List.take_of_length_le (by omega), show i = b.length by omega] at hr
   rw [pdivide_l2, ite_f (by simp; omega), e1, gd_pos (okI64 (by omega) (by omega)), gd_pos (by omega), gd_pos (by show (j : Int) + _ < (ul : Int); omega), gd_pos (okI64 (by omega) (by omega)), gd_pos (okI64 (by omega) (by omega)), gd_pos (by omega), gd_pos (by show (j : Int) + _ < (ul : Int); omega)]
   have hV := V_set w (j + b.length) (UInt32.ofInt ((((w.getD (j + b.length) 0).toNat : Nat) : Int) - (c : Int))) (by omega)
   have e2 := ofInt32 ((((w.getD (j + b.length) 0).toNat : Nat) : Int) - (c : Int))
   generalize UInt32.ofInt ((((w.getD (j + b.length) 0).toNat : Nat) : Int) - (c : Int)) = x at *
   generalize (w.getD (j + b.length) 0).toNat = u at *
   by_cases ht : u < c
   ·refine ⟨w.set (j + b.length) x, true, hw.set _ (by omega) (by omega), ?_, ?_⟩
    ·have e3 : x.toNat + c = u + 4294967296 := by omega
     rw [if_pos rfl, pow1]
     generalize 4294967296 ^ (j + b.length) = p at *
     have : p * (x.toNat + c) = p * (u + 4294967296) := by rw [e3]
     grind
    ·rw [ite_t (by simp; omega)]; rfl
   ·refine ⟨w.set (j + b.length) x, false, hw.set _ (by omega) (by omega), ?_, ?_⟩
    ·have e3 : x.toNat + c = u := by omega
     rw [if_neg (by decide)]
     generalize 4294967296 ^ (j + b.length) = p at *
     have : p * (x.toNat + c) = p * u := by rw [e3]
     grind
    ·rw [ite_f (by simp; omega)]; rfl
 | succ m ih =>
  intro i fu w c hi hf hw hc hs hr
  cases fu with
  | zero => omega
  | succ fu =>
   have hwl := hw.len
   have e1 : ((i : Int) + (j : Int)).toNat = j + i := by omega
   have hU := u32_lt (w.getD (j + i) 0)
   have hX := u32_lt (v.getD i 0)
   have hqv : q.toNat * (v.getD i 0).toNat ≤ 4294967295 * 4294967295 := Nat.mul_le_mul (by omega) (by omega)
   have em : (q * (v.getD i 0).toUInt64).toNat = q.toNat * (v.getD i 0).toNat := by rw [u64_mul, u64_32]; omega
   have em2 : (q * (v.getD i 0).toUInt64).toUInt32.toNat = q.toNat * (v.getD i 0).toNat % 4294967296 := by rw [u32_64, em]
   have es : (shr64 (q * (v.getD i 0).toUInt64) 32).toNat = q.toNat * (v.getD i 0).toNat / 4294967296 := by rw [← em]; exact shr64_is _ 32 (by decide)
   rw [pdivide_l2, ite_t (by simp; omega)]
   simp only [Int.toNat_natCast, hv, e1]
   generalize hxx : q * (v.getD i 0).toUInt64 = pq at *
   obtain ⟨d, hd2, hd, hud⟩ := sub_step (u := (w.getD (j + i) 0).toNat) (c := c) (p := q.toNat * (v.getD i 0).toNat) hU hc
   rw [em2, es, hd]
   have hql : q.toNat * (v.getD i 0).toNat / 4294967296 ≤ 4294967294 := by omega
   rw [wrapI64 (by omega)]
   have e4 : (((q.toNat * (v.getD i 0).toNat / 4294967296 : Nat) : Int) - -(d : Int)) = ((q.toNat * (v.getD i 0).toNat / 4294967296 + d : Nat) : Int) := by omega
   rw [e4, gd_pos (by omega), gd_pos (by omega), gd_pos (okI64 (by omega) (by omega)), gd_pos (by omega), gd_pos (by show _ < (ul : Int); omega), gd_pos (okI64 (by omega) (by omega)), gd_pos (okI64 (by omega) (by omega)), gd_pos (okI64 (by omega) (by omega)), gd_pos (by omega), gd_pos (by omega), gd_pos (by decide), gd_pos (okI64 (by omega) (by omega)), gd_pos (by omega), gd_pos (by show _ < (ul : Int); omega), gd_pos (okI64 (by omega) (by omega))]
   have hV := V_set w (j + i) (UInt32.ofInt ((((w.getD (j + i) 0).toNat : Nat) : Int) - (c : Int) - ((q.toNat * (v.getD i 0).toNat % 4294967296 : Nat) : Int))) (by omega)
   generalize UInt32.ofInt ((((w.getD (j + i) 0).toNat : Nat) : Int) - (c : Int) - ((q.toNat * (v.getD i 0).toNat % 4294967296 : Nat) : Int)) = x at *
   have hc' : q.toNat * (v.getD i 0).toNat / 4294967296 + d ≤ 4294967296 := by omega
   refine ih (i + 1) fu (w.set (j + i) x) _ (by omega) (by omega) (hw.set _ (by omega) (by omega)) hc' ?_ ?_
   ·intro k hk
    rw [getD_set_ne _ _ (by omega)]; exact hs k (by omega)
   ·rw [V_take', show j + (i + 1) = (j + i) + 1 by omega, pow1]
    have hdm := Nat.mod_add_div (q.toNat * (v.getD i 0).toNat) 4294967296
    rw [Nat.pow_add] at *
    generalize (w.getD (j + i) 0).toNat = u at *
    generalize (v.getD i 0).toNat = y at *
    generalize q.toNat * y % 4294967296 = f at *
    generalize q.toNat * y / 4294967296 = g at *
    generalize 4294967296 ^ j = p at *
    generalize 4294967296 ^ i = r at *
    clear ih es em em2 hqv hs hd e4 hql hc' hxx
    have k1 : p * r * (u + d * 4294967296) = p * r * (c + f + x.toNat) := by rw [hud]
    grind
theorem pdivide_l3_is (n : Nat) (a b vf : List UInt32) (vl ul : Nat) (s : Int) (o : List UInt32) (r53 : List UInt32) (j : Nat) (q : UInt64) (K : List UInt32 → List UInt32 → Int → Option (List UInt32 × Nat × List UInt32 × Nat)) (u0 : List UInt32)
  (hbl : b.length ≤ 1000000) (hju : j + b.length < ul) (hul : ul ≤ 1000000) (h0 : u0.length = ul) (hvl : ((vf.drop 0).take b.length).length = b.length) :
  ∀ (m i fu : Nat) (w : List UInt32) (c : UInt64), i + m = b.length → m < fu → Win u0 w j b.length → c.toNat ≤ 1 →
  nV w + 4294967296 ^ (j + i) * c.toNat = nV u0 + 4294967296 ^ j * nV (((vf.drop 0).take b.length).take i) →
  ∃ (w' : List UInt32) (e : Nat), Win u0 w' j b.length ∧ nV w' + 4294967296 ^ (j + b.length + 1) * e = nV u0 + 4294967296 ^ j * nV ((vf.drop 0).take b.length) ∧
  pdivide_l3 n a b s (vf, vl) (r53, ul) o (j : Int) q K fu w c (i : Int) = pdivide_j1 n a b s (vf, vl) (r53, ul) o (j : Int) K w' (q - 1) := by
 generalize hv : ((vf.drop 0).take b.length) = v at *
 intro m
 induction m with
 | zero =>
  intro i fu w c hi hf hw hc hr
  cases fu with
  | zero => omega
  | succ fu =>
   have hwl := hw.len
   have e1 : ((j : Int) + ((b.length : Nat) : Int)).toNat = j + b.length := by omega
   have hU := u32_lt (w.getD (j + b.length) 0)
   rw [List.take_of_length_le (by omega), show i = b.length by omega] at hr
   have hV := V_set w (j + b.length) (w.getD (j + b.length) 0 + c.toUInt32) (by omega)
   have hx : (w.getD (j + b.length) 0 + c.toUInt32).toNat = ((w.getD (j + b.length) 0).toNat + c.toNat) % 4294967296 := by rw [UInt32.toNat_add, u32_64]; omega
   refine ⟨w.set (j + b.length) (w.getD (j + b.length) 0 + c.toUInt32), ((w.getD (j + b.length) 0).toNat + c.toNat) / 4294967296, hw.set _ (by omega) (by omega), ?_, ?_⟩
   ·rw [pow1]
    rw [hx] at hV
    have hdm := Nat.mod_add_div ((w.getD (j + b.length) 0).toNat + c.toNat) 4294967296
    generalize ((w.getD (j + b.length) 0).toNat + c.toNat) % 4294967296 = f at *
    generalize ((w.getD (j + b.length) 0).toNat + c.toNat) / 4294967296 = g at *
    generalize 4294967296 ^ (j + b.length) = p at *
    grind
   ·rw [pdivide_l3, ite_f (by simp; omega), e1, gd_pos (okI64 (by omega) (by omega)), gd_pos (by omega), gd_pos (by show (j : Int) + _ < (ul : Int); omega), gd_pos (by omega), gd_pos (by show (j : Int) + _ < (ul : Int); omega)]
 | succ m ih =>
  intro i fu w c hi hf hw hc hr
  cases fu with
  | zero => omega
  | succ fu =>
   have hwl := hw.len
   have e1 : ((i : Int) + (j : Int)).toNat = j + i := by omega
   have hU := u32_lt (w.getD (j + i) 0)
   have hX := u32_lt (v.getD i 0)
   rw [pdivide_l3, ite_t (by simp; omega)]
   simp only [Int.toNat_natCast, hv, e1]
   rw [gd_pos (okI64 (by omega) (by omega)), gd_pos (by omega), gd_pos (by show _ < (ul : Int); omega), gd_pos (by omega), gd_pos (by omega), gd_pos (okI64 (by omega) (by omega)), gd_pos (by omega), gd_pos (by omega), gd_pos (by show _ < (ul : Int); omega), gd_pos (okI64 (by omega) (by omega))]
   generalize hsx : c + ((w.getD (j + i) 0).toUInt64 + (v.getD i 0).toUInt64) = x
   have es : x.toNat = c.toNat + ((w.getD (j + i) 0).toNat + (v.getD i 0).toNat) := by rw [← hsx, u64_add, u64_add, u64_32, u64_32]; omega
   have ec : (shr64 x 32).toNat = x.toNat / 4294967296 := shr64_is x 32 (by decide)
   have hV := V_set w (j + i) x.toUInt32 (by omega)
   refine ih (i + 1) fu (w.set (j + i) x.toUInt32) _ (by omega) (by omega) (hw.set _ (by omega) (by omega)) (by rw [ec]; omega) ?_
   rw [V_take', show j + (i + 1) = (j + i) + 1 by omega, pow1, ec]
   rw [u32_64] at hV
   have hdm := Nat.mod_add_div x.toNat 4294967296
   rw [Nat.pow_add] at *
   generalize x.toNat % 4294967296 = f at *
   generalize x.toNat / 4294967296 = g at *
   generalize 4294967296 ^ j = p at *
   generalize 4294967296 ^ i = r at *
   clear ih ec hsx
   grind
theorem bpow_pos (i : Nat) : 0 < 4294967296 ^ i := Nat.pow_pos (by decide)
theorem qr_of {W V q r : Nat} (h : r + q * V = W) (hr : r < V) : q = W / V ∧ r = W % V := by
 constructor
 ·rw [← h, Nat.add_mul_div_right _ _ (by omega), Nat.div_eq_of_lt hr, Nat.zero_add]
 ·rw [← h, Nat.add_mul_mod_self_right, Nat.mod_eq_of_lt hr]
theorem top_v {v : List UInt32} (h : 2 ≤ v.length) : nV v = ((v.getD (v.length - 1) 0).toNat * 4294967296 + (v.getD (v.length - 2) 0).toNat) * 4294967296 ^ (v.length - 2) + nV (v.take (v.length - 2)) := by
 have h1 := V_split v (v.length - 2)
 have h2 := V_drop v (v.length - 2) (by omega)
 have h3 := V_drop v (v.length - 2 + 1) (by omega)
 rw [List.drop_of_length_le (l := v) (i := v.length - 2 + 1 + 1) (by omega), V_nil, show v.length - 2 + 1 = v.length - 1 by omega] at h3
 rw [show v.length - 2 + 1 = v.length - 1 by omega] at h2
 rw [h1, h2, h3]; grind
theorem top_w {w : List UInt32} {i k : Nat} (h : 2 ≤ k) (hk : i + k < w.length) (h0 : nV (w.drop (i + k + 1)) = 0) : nV (w.drop i) = (((w.getD (i + k) 0).toNat * 4294967296 + (w.getD (i + k - 1) 0).toNat) * 4294967296 + (w.getD (i + k - 2) 0).toNat) * 4294967296 ^ (k - 2) + nV ((w.drop i).take (k - 2)) := by
 have h1 := V_split (w.drop i) (k - 2)
 rw [List.drop_drop, show i + (k - 2) = i + k - 2 by omega] at h1
 have h2 := V_drop w (i + k - 2) (by omega)
 have h3 := V_drop w (i + k - 1) (by omega)
 have h4 := V_drop w (i + k) (by omega)
 rw [show i + k - 2 + 1 = i + k - 1 by omega] at h2
 rw [show i + k - 1 + 1 = i + k by omega] at h3
 rw [h0] at h4
 rw [h1, h2, h3, h4]; grind
theorem cancel_pow {p x y : Nat} (hp : 0 < p) (h : p * x = p * y) : x = y := Nat.eq_of_mul_eq_mul_left hp h
theorem div_step {n : Nat} (hn : 18446744073709551616 ≤ n) (a b vf : List UInt32) (vl ul : Nat) (s : Int) (o : List UInt32) (r53 : List UInt32) (i : Nat) (K : List UInt32 → List UInt32 → Int → Option (List UInt32 × Nat × List UInt32 × Nat)) (w : List UInt32)
  (hb2 : 2 ≤ b.length) (hbl : b.length ≤ 100000) (hju : i + b.length < ul) (hul : ul ≤ 1000000) (h0 : w.length = ul) (hvl : ((vf.drop 0).take b.length).length = b.length)
  (hn1 : 2147483648 ≤ (((vf.drop 0).take b.length).getD (b.length - 1) 0).toNat) (hw : nV (w.drop (i + 1)) < nV ((vf.drop 0).take b.length)) :
  ∃ (w' : List UInt32) (q : UInt64), w'.length = ul ∧ nV (w'.drop i) < nV ((vf.drop 0).take b.length) ∧ q.toNat < 4294967296 ∧ nV w' + 4294967296 ^ i * q.toNat * nV ((vf.drop 0).take b.length) = nV w ∧
  ((pdigit n w ((vf.drop 0).take b.length) (i : Int)).bind fun r71_2 => pdivide_l2 n a b s (vf, vl) (r53, ul) o (i : Int) r71_2 K n w 0 0) = pdivide_j1 n a b s (vf, vl) (r53, ul) o (i : Int) K w' q := by
 have L2 := pdivide_l2_is n a b vf vl ul s o r53 i
 have L3 := pdivide_l3_is n a b vf vl ul s o r53 i
 generalize hv : ((vf.drop 0).take b.length) = v at *
 have tv := top_v (v := v) (by omega)
 have lv := V_lt v
 have lvl := V_lt (v.take (v.length - 2))
 rw [List.length_take, Nat.min_eq_left (by omega)] at lvl
 have hWd := V_drop w i (by omega)
 have hwi := u32_lt (w.getD i 0)
 have hWB : nV (w.drop i) < 4294967296 * nV v := by
  have : 4294967296 * (nV (w.drop (i + 1)) + 1) ≤ 4294967296 * nV v := Nat.mul_le_mul_left _ hw
  omega
 have hz : nV (w.drop (i + b.length + 1)) = 0 := by
  have h1 := V_split (w.drop i) (b.length + 1)
  rw [List.drop_drop, show i + (b.length + 1) = i + b.length + 1 by omega, pow1] at h1
  rw [hvl] at lv
  cases Nat.eq_zero_or_pos (nV (w.drop (i + b.length + 1))) with
  | inl h => exact h
  | inr h =>
   have := Nat.mul_le_mul_left (4294967296 * 4294967296 ^ b.length) h
   omega
 have tw := top_w (w := w) (i := i) hb2 (by omega) hz
 have lul := V_lt ((w.drop i).take (b.length - 2))
 rw [List.length_take] at lul
 have lul' : nV ((w.drop i).take (b.length - 2)) < 4294967296 ^ (b.length - 2) := Nat.lt_of_lt_of_le lul (Nat.pow_le_pow_right (by decide) (by omega))
 rw [hvl] at tv lvl
 have hv2 := u32_lt (v.getD (b.length - 2) 0)
 have hD := dig_of (p := 4294967296 ^ (b.length - 2)) lul' lvl hn1 hv2 (by rw [← tw, ← tv]; exact hWB)
 rw [← tw, ← tv] at hD
 have hVpos : 0 < nV v := by omega
 obtain ⟨q, hq, hQ1, hQ2, hqB⟩ := pdigit_is hn (u := w) (v := v) (j := i) (by omega) (by omega) (by omega) (by omega) (Q := nV (w.drop i) / nV v) (by rw [hvl]; exact hD)
 rw [hq]
 simp only [Option.bind_some]
 obtain ⟨w1, t, hW1, he1, hr1⟩ := L2 q K w (by omega) hju hul h0 hqB hvl b.length 0 n w 0 (by omega) (by omega) (Win.refl _ _ _) (by decide) (fun _ _ => rfl) (by simp [V_nil])
 have hr1' : pdivide_l2 n a b s (vf, vl) (r53, ul) o (i : Int) q K n w 0 0 = _ := hr1
 rw [hr1']
 have hm := Nat.mod_add_div (nV (w.drop i)) (nV v)
 have hml := Nat.mod_lt (nV (w.drop i)) hVpos
 have hws := V_split w i
 obtain ⟨hk1, hk2⟩ := hW1.eq hz
 have hp := bpow_pos i
 cases t with
 | false =>
  have hx : nV (w1.drop i) + q.toNat * nV v = nV (w.drop i) := by
   refine cancel_pow hp ?_
   rw [if_neg (by decide)] at he1
   rw [Nat.mul_add]; omega
  have hqq : q.toNat = nV (w.drop i) / nV v := by
   refine Nat.le_antisymm ?_ hQ1
   rw [Nat.le_div_iff_mul_le hVpos]; omega
  refine ⟨w1, q, by rw [hW1.len]; exact h0, ?_, hqB, ?_, rfl⟩
  ·rw [hqq, Nat.mul_comm] at hx; omega
  ·rw [hk1, hws, ← hx]; grind
 | true =>
  have hx : nV (w1.drop i) + q.toNat * nV v = nV (w.drop i) + 4294967296 ^ (b.length + 1) := by
   refine cancel_pow hp ?_
   rw [if_pos rfl, show i + b.length + 1 = i + (b.length + 1) by omega, Nat.pow_add] at he1
   rw [Nat.mul_add, Nat.mul_add]; omega
  have hqq : q.toNat = nV (w.drop i) / nV v + 1 := by
   refine Nat.le_antisymm hQ2 ?_
   show _ < q.toNat
   rw [Nat.div_lt_iff_lt_mul hVpos]; omega
  obtain ⟨w2, e, hW2, he2, hr2⟩ := L3 q K w1 (by omega) hju hul (by rw [hW1.len]; exact h0) hvl b.length 0 n w1 0 (by omega) (by omega) (Win.refl _ _ _) (by decide) (by simp [V_nil])
  have hr2' : pdivide_l3 n a b s (vf, vl) (r53, ul) o (i : Int) q K n w1 0 0 = _ := hr2
  have hz1 : nV (w1.drop (i + b.length + 1)) = 0 := by rw [hW1.hi]; exact hz
  obtain ⟨hk3, hk4⟩ := hW2.eq hz1
  rw [hW1.lo] at hk3
  have hy : nV (w2.drop i) + 4294967296 ^ (b.length + 1) * e = nV (w1.drop i) + nV v := by
   refine cancel_pow hp ?_
   rw [show i + b.length + 1 = i + (b.length + 1) by omega, Nat.pow_add] at he2
   rw [Nat.mul_add, Nat.mul_add, ← Nat.mul_assoc]; omega
  have hq0 : 0 < q.toNat := by rw [hqq]; exact Nat.succ_pos _
  have hq1 : (q - 1).toNat = q.toNat - 1 := by rw [u64_sub]; have := u64_lt q; show (18446744073709551616 - 1 + _) % _ = _; omega
  rw [hqq, Nat.add_mul, Nat.mul_comm (_ / _)] at hx
  have hg : nV (w1.drop i) + nV v = nV (w.drop i) % nV v + 4294967296 ^ (b.length + 1) := by omega
  have he : e = 1 := by
   rw [hg] at hy
   rw [hvl] at lv
   rw [pow1] at *
   generalize 4294967296 ^ b.length = p at *
   cases e with
   | zero => omega
   | succ e =>
    cases e with
    | zero => rfl
    | succ e =>
     have : 4294967296 * p * 2 ≤ 4294967296 * p * (e + 1 + 1) := Nat.mul_le_mul_left _ (by omega)
     omega
  rw [he, Nat.mul_one] at hy
  have hr : nV (w2.drop i) = nV (w.drop i) % nV v := by omega
  refine ⟨w2, q - 1, by rw [hW2.len, hW1.len]; exact h0, by rw [hr]; exact hml, by rw [hq1]; exact Nat.lt_of_le_of_lt (Nat.sub_le _ _) hqB, ?_, by rw [ite_t rfl]; exact hr2'⟩
  rw [hk3, hws, hr, hq1, hqq, Nat.add_sub_cancel]
  generalize nV (w.drop i) % nV v = x at *
  generalize nV (w.drop i) / nV v = y at *
  generalize 4294967296 ^ i = p at *
  rw [← hm]; grind
theorem or_shl (x y : UInt32) (s : Nat) (hs : s < 32) : (shr32 x (s : Int) ||| (shl64 y.toUInt64 (32 - (s : Int))).toUInt32).toNat * 2 ^ s + x.toNat % 2 ^ s = x.toNat + 4294967296 * (y.toNat % 2 ^ s) := by
 have hX := u32_lt x
 have hp : 0 < 2 ^ s := Nat.pow_pos (by decide)
 have e0 : (32 : Int) - (s : Int) = ((32 - s : Nat) : Int) := by omega
 have e1 : (4294967296 : Nat) = 2 ^ (32 - s) * 2 ^ s := by rw [← Nat.pow_add, show 32 - s + s = 32 by omega]
 have e2 : y.toNat * 2 ^ (32 - s) % 4294967296 = (y.toNat % 2 ^ s) * 2 ^ (32 - s) := by
  rw [e1, Nat.mul_comm (2 ^ (32 - s)), Nat.mul_mod_mul_right]
 have hlt : x.toNat / 2 ^ s < 2 ^ (32 - s) := by rw [Nat.div_lt_iff_lt_mul hp, ← e1]; exact hX
 rw [UInt32.toNat_or, shr32_is _ _ hs, u32_64, e0, shr_shl _ _ (by omega), e2, Nat.or_comm, ← Nat.shiftLeft_eq (y.toNat % 2 ^ s), ← Nat.shiftLeft_add_eq_or_of_lt hlt, Nat.shiftLeft_eq]
 have hd := Nat.mod_add_div x.toNat (2 ^ s)
 generalize x.toNat % 2 ^ s = f at *
 generalize x.toNat / 2 ^ s = g at *
 generalize y.toNat % 2 ^ s = h at *
 rw [e1]
 generalize 2 ^ s = p at *
 generalize 2 ^ (32 - s) = r at *
 clear hlt e1 e2
 grind
theorem pdivide_l4_is {n : Nat} (hn : 18446744073709551616 ≤ n) (a b : List UInt32) (s : Nat) (hs : s < 32) (r53 : List UInt32) (ul : Nat) (o : List UInt32) (R : Nat) (w0 : List UInt32) (h0 : w0.length = ul) (hul : ul ≤ 1000000) (hb : b.length < ul) (ho : o.length ≤ 1000000) (hV : nV w0 = 2 ^ s * R) (hlt : nV w0 < 4294967296 ^ b.length) :
  ∀ (m i fu : Nat) (w : List UInt32), i + m = b.length → m < fu → w.length = ul → (∀ k, i ≤ k → w.getD k 0 = w0.getD k 0) → 2 ^ s * nV (w.take i) + (w0.getD 0 0).toNat % 2 ^ s = nV (w0.take i) + 4294967296 ^ i * ((w0.getD i 0).toNat % 2 ^ s) →
  pdivide_l4 n a b (s : Int) (r53, ul) o fu w (i : Int) = some (nD (nV o), (nD (nV o)).length, nD R, (nD R).length) := by
 have hp : 0 < 2 ^ s := Nat.pow_pos (by decide)
 intro m
 induction m with
 | zero =>
  intro i fu w hi hf hw hs' hr
  cases fu with
  | zero => omega
  | succ fu =>
   obtain rfl : i = b.length := by omega
   have h1 := V_split w0 b.length
   have h2 := V_drop w0 b.length (by omega)
   have hB := bpow_pos b.length
   have h3 : nV (w0.drop b.length) = 0 := by
    cases Nat.eq_zero_or_pos (nV (w0.drop b.length)) with
    | inl h => exact h
    | inr h => have := Nat.mul_le_mul_left (4294967296 ^ b.length) h; omega
   have h4 : (w0.getD b.length 0).toNat = 0 := by omega
   rw [h3, Nat.mul_zero, Nat.add_zero] at h1
   rw [h4, Nat.zero_mod, Nat.mul_zero, Nat.add_zero, ← h1, hV] at hr
   have hc := Nat.mod_lt (w0.getD 0 0).toNat hp
   have hR : nV (w.take b.length) = R := by
    have k1 : nV (w.take b.length) ≤ R := Nat.le_of_mul_le_mul_left (by omega) hp
    refine Nat.le_antisymm k1 (Nat.le_of_not_lt fun h => ?_)
    have := Nat.mul_le_mul_left (2 ^ s) (show nV (w.take b.length) + 1 ≤ R from h)
    rw [Nat.mul_add] at this
    omega
   rw [pdivide_l4, ite_f (by simp), ptrim_is hn (by omega)]
   simp only [Option.bind_some]
   rw [gd_pos (by omega), gd_pos (by show _ ≤ (ul : Int); omega), Int.toNat_natCast, List.drop_zero, ptrim_is hn (by simp; omega)]
   simp only [Option.bind_some]
   rw [hR]
   have ht := tk (a := w.take b.length) (by simp; omega)
   have hk := D_le (a := w.take b.length)
   rw [hR, List.length_take] at hk
   rw [hR, List.drop_zero, List.take_take, Nat.min_eq_left (by omega)] at ht
   have ht2 := tk ho
   rw [List.drop_zero] at ht2
   simp only [List.drop_zero, ht, ht2]
 | succ m ih =>
  intro i fu w hi hf hw hs' hr
  cases fu with
  | zero => omega
  | succ fu =>
   have e1 : ((i : Int) + 1).toNat = i + 1 := by omega
   rw [pdivide_l4, ite_t (by simp; omega), e1, Int.toNat_natCast, gd_pos (by omega), gd_pos (by show _ < (ul : Int); omega), gd_pos (by omega), gd_pos (okI64 (by omega) (by omega)), gd_pos (by omega), gd_pos (by show _ < (ul : Int); omega), gd_pos (okI64 (by omega) (by omega)), gd_pos (by omega), gd_pos (by omega), gd_pos (by show _ < (ul : Int); omega), gd_pos (okI64 (by omega) (by omega))]
   rw [hs' i (by omega), hs' (i + 1) (by omega)]
   have ho := or_shl (w0.getD i 0) (w0.getD (i + 1) 0) s hs
   generalize shr32 (w0.getD i 0) (s : Int) ||| (shl64 (w0.getD (i + 1) 0).toUInt64 (32 - (s : Int))).toUInt32 = x at *
   refine ih (i + 1) fu (w.set i x) (by omega) (by omega) (by rw [List.length_set]; exact hw) ?_ ?_
   ·intro k hk
    rw [getD_set_ne _ _ (by omega)]; exact hs' k (by omega)
   ·rw [V_take', V_take', List.take_set_of_le (Nat.le_refl _), getD_set_eq _ _ (by omega), pow1]
    clear ih hs' hV hlt hp
    generalize 4294967296 ^ i = p at *
    generalize (w0.getD (i + 1) 0).toNat % 2 ^ s = c at *
    generalize (w0.getD i 0).toNat % 2 ^ s = d at *
    have k1 : p * (x.toNat * 2 ^ s + d) = p * ((w0.getD i 0).toNat + 4294967296 * c) := by rw [ho]
    grind
theorem pdivide_l1_is {n : Nat} (hn : 18446744073709551616 ≤ n) (a b vf : List UInt32) (vl : Nat) (s : Nat) (r53 : List UInt32) (X Y : Nat) (hs : s < 32)
  (hb2 : 2 ≤ b.length) (hba : b.length ≤ a.length) (hal : a.length ≤ 100000) (hvl : ((vf.drop 0).take b.length).length = b.length)
  (hn1 : 2147483648 ≤ (((vf.drop 0).take b.length).getD (b.length - 1) 0).toNat) (hV : nV ((vf.drop 0).take b.length) = 2 ^ s * Y) :
  ∀ (j fu : Nat) (w o : List UInt32), j < fu → j ≤ a.length - b.length + 1 → w.length = a.length + 1 → o.length = a.length - b.length + 1 → (∀ k, k < j → o.getD k 0 = 0) → nV (w.drop j) < 2 ^ s * Y → nV w + nV o * (2 ^ s * Y) = 2 ^ s * X →
  pdivide_l1 n a b (s : Int) (vf, vl) (r53, a.length + 1) fu w o ((j : Int) - 1) = some (nD (X / Y), (nD (X / Y)).length, nD (X % Y), (nD (X % Y)).length) := by
 have hp : 0 < 2 ^ s := Nat.pow_pos (by decide)
 intro j
 induction j with
 | zero =>
  intro fu w o hf hj hw ho hz hl he
  cases fu with
  | zero => omega
  | succ fu =>
   rw [List.drop_zero] at hl
   have lv := V_lt ((vf.drop 0).take b.length)
   rw [hV, hvl] at lv
   have hY : 0 < Y := Nat.pos_of_ne_zero fun h => by rw [h] at hl; omega
   have hwq : nV o = X / Y ∧ nV w = 2 ^ s * (X % Y) := by
    have hx := Nat.mod_add_div X Y
    have hq := qr_of he hl
    rw [hq.1, hq.2]
    exact ⟨Nat.mul_div_mul_left _ _ hp, Nat.mul_mod_mul_left _ _ _⟩
   have := pdivide_l4_is hn a b s hs r53 (a.length + 1) o (X % Y) w hw (by omega) (by omega) (by omega) hwq.2 (by omega) b.length 0 n w (by omega) (by omega) hw (fun _ _ => rfl) (by simp [V_nil])
   rw [pdivide_l1, ite_f (by simp), ← hwq.1]
   exact this
 | succ j ih =>
  intro fu w o hf hj hw ho hz hl he
  cases fu with
  | zero => omega
  | succ fu =>
   rw [show ((j + 1 : Nat) : Int) - 1 = (j : Int) by omega, pdivide_l1, ite_t (by simp)]
   obtain ⟨w', q, h1, h2, h3, h4, h5⟩ := div_step hn a b vf vl (a.length + 1) (s : Int) o r53 j (pdivide_l1 n a b (s : Int) (vf, vl) (r53, a.length + 1) fu) w hb2 (by omega) (by omega) (by omega) hw hvl hn1 (by rw [hV]; exact hl)
   rw [hV] at h2 h4
   have ho1 := V_set o j q.toUInt32 (by omega)
   rw [hz j (by omega), u32_64, Nat.mod_eq_of_lt h3] at ho1
   simp only [UInt32.toNat_zero, Nat.mul_zero, Nat.add_zero] at ho1
   simp only [Int.toNat_natCast]
   rw [h5]
   unfold pdivide_j1
   rw [gd_pos (by omega), gd_pos (by omega), gd_pos (okI64 (by omega) (by omega)), Int.toNat_natCast]
   refine ih fu w' (o.set j q.toUInt32) (by omega) (by omega) h1 (by rw [List.length_set]; exact ho) ?_ h2 ?_
   ·intro k hk
    rw [getD_set_ne _ _ (by omega)]; exact hz k (by omega)
   ·rw [ho1, Nat.add_mul]; omega
theorem D_last {y : Nat} (hy : y ≠ 0) : (nD y).length ≠ 0 ∧ ((nD y).getD ((nD y).length - 1) 0).toNat ≠ 0 := by
 have h1 : (nD y).length ≠ 0 := fun h => by
  have := (D_len y 0).1 (by omega)
  simp at this; omega
 refine ⟨h1, fun h => ?_⟩
 have h2 := wpos h1
 rw [h, V_D] at h2
 have h3 := V_lt ((nD y).take ((nD y).length - 1))
 rw [List.length_take, Nat.min_eq_left (by omega)] at h3
 have := (D_len y ((nD y).length - 1)).2 (by omega)
 omega
theorem pdivide_D {n : Nat} (hn : 18446744073709551616 ≤ n) {x y : Nat} (hx : (nD x).length ≤ 90000) (hyl : (nD y).length ≤ 90000) (hy : y ≠ 0) :
  pdivide n (nD x) (nD y) = some (nD (x / y), (nD (x / y)).length, nD (x % y), (nD (x % y)).length) := by
 obtain ⟨hl0, hlast⟩ := D_last hy
 unfold pdivide
 rw [pCmp_D hn (by omega) (by omega)]
 simp only [Option.bind_some]
 by_cases hlt : x < y
 ·rw [ite_t (by simp [cmpN_neg, hlt]), gd_pos (by omega), Nat.div_eq_of_lt hlt, Nat.mod_eq_of_lt hlt, D_zero]; rfl
 ·have hxy := D_mono (Nat.le_of_not_lt hlt)
  rw [ite_f (by simp only [decide_eq_false_iff_not, cmpN_neg]; exact hlt)]
  by_cases h1 : (nD y).length = 1
  ·have hb : nV (nD y) = ((nD y).getD 0 0).toNat := by
    have := wpos hl0
    rw [h1] at this
    simpa [V_nil] using this
   rw [V_D] at hb
   rw [ite_t (by simp; omega), gd_pos (by omega), gd_pos (by omega), pshort_is hn (by omega) (by omega), V_D, ← hb]; rfl
  ·rw [ite_f (by simp; omega)]
   have e1 : ((((nD y).length : Nat) : Int) - 1).toNat = (nD y).length - 1 := by omega
   rw [e1, gd_pos (okI64 (by omega) (by omega)), gd_pos (by omega), gd_pos (by omega)]
   obtain ⟨s, hs, hs1, hs2, hs3⟩ := bclz32_is n _ hlast
   obtain ⟨vf, hvf, hvl, hvv⟩ := pshift_is hn (a := nD y) hs (by omega)
   obtain ⟨uf, huf, hul, huv⟩ := pshift_is hn (a := nD x) hs (by omega)
   rw [hs3]
   simp only [Option.bind_some]
   rw [hvf]
   simp only [Option.bind_some]
   rw [huf]
   simp only [Option.bind_some]
   rw [V_D] at hvv huv
   have e2 : (((((nD x).length : Nat) : Int) - (((nD y).length : Nat) : Int)) + 1).toNat = (nD x).length - (nD y).length + 1 := by omega
   rw [gd_pos (by omega), gd_pos (by omega), gd_pos (okI64 (by omega) (by omega)), gd_pos (okI64 (by omega) (by omega)), gd_pos (by omega), gd_pos (by trivial), gd_pos (by unfold rmB; omega), gd_pos (okI64 (by omega) (by omega)), e2]
   have hp : 0 < 2 ^ s := Nat.pow_pos (by decide)
   -- the divisor, moved up
   have hw := wpos hl0
   rw [V_D] at hw
   have hll := V_lt ((nD y).take ((nD y).length - 1))
   rw [List.length_take, Nat.min_eq_left (by omega)] at hll
   have hpw : 4294967296 ^ (nD y).length = 4294967296 * 4294967296 ^ ((nD y).length - 1) := by rw [← pow1]; congr 1; omega
   generalize ht : ((nD y).getD ((nD y).length - 1) 0).toNat = t at *
   have hP := bpow_pos ((nD y).length - 1)
   have hlo : 2147483648 * 4294967296 ^ ((nD y).length - 1) ≤ 2 ^ s * y := by
    have k1 := Nat.mul_le_mul_right (4294967296 ^ ((nD y).length - 1)) hs1
    have k2 : 2 ^ s * (4294967296 ^ ((nD y).length - 1) * t) ≤ 2 ^ s * y := Nat.mul_le_mul_left _ (by omega)
    have k3 : t * 2 ^ s * 4294967296 ^ ((nD y).length - 1) = 2 ^ s * (4294967296 ^ ((nD y).length - 1) * t) := by grind
    omega
   have hhi : 2 ^ s * y < 4294967296 ^ (nD y).length := by
    have k1 : y + 1 ≤ 4294967296 ^ ((nD y).length - 1) * (t + 1) := by rw [Nat.mul_add]; omega
    have k2 := Nat.mul_le_mul_left (2 ^ s) k1
    have k3 : (t + 1) * 2 ^ s ≤ 4294967296 := by
     have e5 : (4294967296 : Nat) = 2 ^ (32 - s) * 2 ^ s := by rw [← Nat.pow_add, show 32 - s + s = 32 by omega]
     rw [e5] at hs2 ⊢
     exact Nat.mul_le_mul_right _ (Nat.lt_of_mul_lt_mul_right hs2)
    have k4 := Nat.mul_le_mul_right (4294967296 ^ ((nD y).length - 1)) k3
    have k5 : 2 ^ s * (4294967296 ^ ((nD y).length - 1) * (t + 1)) = (t + 1) * 2 ^ s * 4294967296 ^ ((nD y).length - 1) := by grind
    rw [hpw]
    rw [Nat.mul_add] at k2
    omega
   have hvs := V_split vf (nD y).length
   have hvd : nV (vf.drop (nD y).length) = 0 := by
    cases Nat.eq_zero_or_pos (nV (vf.drop (nD y).length)) with
    | inl h => exact h
    | inr h => have := Nat.mul_le_mul_left (4294967296 ^ (nD y).length) h; omega
   rw [hvd, Nat.mul_zero, Nat.add_zero, hvv] at hvs
   have hvt := V_take vf ((nD y).length - 1) (by omega)
   rw [show (nD y).length - 1 + 1 = (nD y).length by omega, ← hvs] at hvt
   have hvtl := V_lt (vf.take ((nD y).length - 1))
   rw [List.length_take, Nat.min_eq_left (by omega)] at hvtl
   have hg : ((vf.take (nD y).length).getD ((nD y).length - 1) 0) = vf.getD ((nD y).length - 1) 0 := by
    rw [List.getD_eq_getElem?_getD, List.getD_eq_getElem?_getD, List.getElem?_take_of_lt (by omega)]
   have hn1 : 2147483648 ≤ (vf.getD ((nD y).length - 1) 0).toNat := by
    refine Nat.le_of_not_lt fun h => ?_
    have k1 := Nat.mul_le_mul_left (4294967296 ^ ((nD y).length - 1)) (show (vf.getD ((nD y).length - 1) 0).toNat + 1 ≤ 2147483648 from h)
    rw [Nat.mul_add] at k1
    omega
   -- the dividend's top
   have hxl := (D_len x (nD x).length).1 (Nat.le_refl _)
   have hus := V_split uf ((nD x).length - (nD y).length + 1)
   have hut : nV (uf.drop ((nD x).length - (nD y).length + 1)) < 2 ^ s * y := by
    refine Nat.lt_of_lt_of_le ?_ hlo
    refine Nat.lt_of_mul_lt_mul_left (a := 4294967296 ^ ((nD x).length - (nD y).length + 1)) ?_
    have k1 : 2 ^ s * x < 2 ^ s * 4294967296 ^ (nD x).length := Nat.mul_lt_mul_of_pos_left hxl hp
    have k2 : 2 ^ s ≤ 2 ^ 31 := Nat.pow_le_pow_right (by decide) (by omega)
    have k3 := Nat.mul_le_mul_right (4294967296 ^ (nD x).length) k2
    have k4 : 4294967296 ^ (nD x).length = 4294967296 ^ ((nD x).length - (nD y).length + 1) * 4294967296 ^ ((nD y).length - 1) := by rw [← Nat.pow_add]; congr 1; omega
    have k5 : 4294967296 ^ ((nD x).length - (nD y).length + 1) * (2147483648 * 4294967296 ^ ((nD y).length - 1)) = 2 ^ 31 * 4294967296 ^ (nD x).length := by rw [k4]; grind
    rw [k5]
    omega
   have := pdivide_l1_is hn (nD x) (nD y) vf ((nD y).length + 1) s uf x y hs (by omega) hxy (by omega) (by simp; omega) (by rw [List.drop_zero, hg]; exact hn1) (by rw [List.drop_zero, ← hvs]) ((nD x).length - (nD y).length + 1) n uf (List.replicate ((nD x).length - (nD y).length + 1) 0) (by omega) (Nat.le_refl _) hul (by simp) (fun k _ => getD_rep0 _ _) hut (by rw [huv, V_rep]; omega)
   rw [show (((nD x).length - (nD y).length + 1 : Nat) : Int) - 1 = ((nD x).length : Int) - ((nD y).length : Int) by omega] at this
   exact this
theorem D_mul_len {x y k l : Nat} (hx : (nD x).length ≤ k) (hy : (nD y).length ≤ l) : (nD (x * y)).length ≤ k + l := by
 rw [D_len, Nat.pow_add]
 have h1 := (D_len x k).1 hx
 have h2 := (D_len y l).1 hy
 exact Nat.mul_lt_mul'' h1 h2
theorem prest_D {n : Nat} (hn : 18446744073709551616 ≤ n) {x y m : Nat} (hx : (nD x).length ≤ 1000) (hy : (nD y).length ≤ 1000) (hm : (nD m).length ≤ 1000) (h0 : m ≠ 0) :
  prest n (nD x) (nD y) (nD m) = some (nD (x * y % m), (nD (x * y % m)).length) := by
 have := D_mul_len hx hy
 unfold prest
 rw [ptimes_D hn (by omega) (by omega)]
 simp only [Option.bind_some]
 rw [pdivide_D hn (by omega) (by omega) h0]; rfl
theorem D_one : nD 1 = [1] := by
 have := D_V (l := [1]) (by simp)
 rwa [show nV [1] = 1 from rfl] at this
theorem bit_mod (x a r : Nat) (h : r < 32) : x / 2 ^ a % 4294967296 / 2 ^ r % 2 = x / 2 ^ (a + r) % 2 := by
 have e : (4294967296 : Nat) = 2 ^ r * (2 * 2 ^ (31 - r)) := by rw [show 2 * 2 ^ (31 - r) = 2 ^ (32 - r) by rw [Nat.mul_comm, ← Nat.pow_succ]; congr 1; omega, ← Nat.pow_add, show r + (32 - r) = 32 by omega]
 rw [e, Nat.mod_mul_right_div_self, Nat.div_div_eq_div_mul, ← Nat.pow_add, Nat.mod_mul_right_mod]
theorem half (x j : Nat) : x / 2 ^ j = 2 * (x / 2 ^ (j + 1)) + x / 2 ^ j % 2 := by
 rw [Nat.pow_succ, ← Nat.div_div_eq_div_mul]; omega
theorem pow_step (x m k t : Nat) : ((x ^ k % m) * (x ^ k % m) % m * x) % m = x ^ (2 * k + 1) % m ∧ (x ^ k % m) * (x ^ k % m) % m = x ^ (2 * k) % m := by
 have h : (x ^ k % m) * (x ^ k % m) % m = x ^ (2 * k) % m := by rw [← Nat.mul_mod, ← Nat.pow_add, Nat.two_mul]
 refine ⟨?_, h⟩
 rw [h, Nat.mod_mul_mod, Nat.pow_succ]
theorem and1_32 (x : UInt32) : ((x &&& (1 : UInt32)) == 1) = decide (x.toNat % 2 = 1) := by
 have e : (x &&& (1 : UInt32)).toNat = x.toNat % 2 := by
  rw [UInt32.toNat_and]; exact Nat.and_one_is_mod _
 rw [Bool.eq_iff_iff]
 simp only [beq_iff_eq, decide_eq_true_eq, ← UInt32.toNat_inj, e]
 exact Iff.rfl
theorem pExp_l1_is {n : Nat} (hn : 18446744073709551616 ≤ n) (x e m : Nat) (b1 b2 : Bool) (w2 : List UInt32) (l2 : Nat) (hx : (nD x).length ≤ 64) (he : (nD e).length ≤ 64) (hm : (nD m).length ≤ 64) (h0 : m ≠ 0) :
  ∀ (j fu : Nat) (l : Nat), j < fu → j ≤ 32 * (nD e).length →
  pExp_l1 n (nD x, (nD x).length, nD e, (nD e).length, b1) (nD m, (nD m).length, w2, l2, b2) fu (nD (x ^ (e / 2 ^ j) % m)) l ((j : Int) - 1) = some (nD (x ^ e % m), none) := by
 intro j
 induction j with
 | zero =>
  intro fu l hf hj
  cases fu with
  | zero => omega
  | succ fu =>
   have := D_mono (Nat.le_of_lt (Nat.mod_lt (x ^ (e / 2 ^ 0)) (show m > 0 by omega)))
   rw [pExp_l1, ite_f (by simp), gd_pos (by omega)]; simp
 | succ j ih =>
  intro fu l hf hj
  cases fu with
  | zero => omega
  | succ fu =>
   have hml := fun y => D_mono (Nat.le_of_lt (Nat.mod_lt y (show m > 0 by omega)))
   have t1 : Int.tdiv (j : Int) 32 = ((j / 32 : Nat) : Int) := by rw [Int.tdiv_eq_ediv_of_nonneg (by omega)]; omega
   have t2 : Int.tmod (j : Int) 32 = ((j % 32 : Nat) : Int) := by rw [Int.tmod_eq_emod_of_nonneg (by omega)]; omega
   obtain ⟨p1, p2⟩ := pow_step x m (e / 2 ^ (j + 1)) 0
   rw [show ((j + 1 : Nat) : Int) - 1 = (j : Int) by omega, pExp_l1, ite_t (by simp), prest_D hn (by have := hml (x ^ (e / 2 ^ (j + 1))); omega) (by have := hml (x ^ (e / 2 ^ (j + 1))); omega) (by omega) h0]
   simp only [Option.bind_some]
   rw [t1, t2, gd_pos (by decide), gd_pos (okI64 (by omega) (by omega)), gd_pos (by omega), gd_pos (by omega), gd_pos (by decide), gd_pos (by omega), and1_32, shr32_is _ _ (by omega), Int.toNat_natCast, D_get]
   have hb : e / 4294967296 ^ (j / 32) % 4294967296 / 2 ^ (j % 32) % 2 = e / 2 ^ j % 2 := by
    rw [show (4294967296 : Nat) ^ (j / 32) = 2 ^ (32 * (j / 32)) by rw [Nat.pow_mul], bit_mod _ _ _ (by omega), show 32 * (j / 32) + j % 32 = j by omega]
   rw [hb, p2]
   have hh := half e j
   by_cases hbit : e / 2 ^ j % 2 = 1
   ·rw [ite_t (by simp [hbit]), prest_D hn (by have := hml (x ^ (2 * (e / 2 ^ (j + 1)))); omega) (by omega) (by omega) h0]
    simp only [Option.bind_some]
    unfold pExp_j1
    rw [gd_pos (okI64 (by omega) (by omega)), ← p2, p1, show 2 * (e / 2 ^ (j + 1)) + 1 = e / 2 ^ j by omega]
    exact ih fu _ (by omega) (by omega)
   ·rw [ite_f (by simp [hbit])]
    unfold pExp_j1
    rw [gd_pos (okI64 (by omega) (by omega)), show 2 * (e / 2 ^ (j + 1)) = e / 2 ^ j by omega]
    exact ih fu _ (by omega) (by omega)
theorem pExp_is {n : Nat} (hn : 18446744073709551616 ≤ n) {a e m : List UInt32} (ha : a.length ≤ 1000000) (he : e.length ≤ 1000000) (hm : m.length ≤ 1000000) :
  pExp n a e m = if (nD (nV a)).length ≤ 64 ∧ (nD (nV e)).length ≤ 64 ∧ (nD (nV m)).length ≤ 64 then (if nV m = 0 then some ([], some 1) else some (nD (nV a ^ nV e % nV m), none)) else some ([], some 4) := by
 unfold pExp
 rw [pmay_is hn ha he, pmay_is hn hm (by simp)]
 simp only [Option.bind_some]
 by_cases h : (nD (nV a)).length ≤ 64 ∧ (nD (nV e)).length ≤ 64
 ·rw [ite_f (by simp [h])]
  by_cases h2 : (nD (nV m)).length ≤ 64
  ·rw [if_pos ⟨h.1, h.2, h2⟩, ite_f (by simp [h2, V_nil, D_zero])]
   by_cases h0 : nV m = 0
   ·rw [if_pos h0, ite_t (by rw [h0, D_zero]; rfl)]
   ·rw [if_neg h0, ite_f (by have := (D_last h0).1; simp; intro h; rw [h] at this; exact this rfl)]
    have hd := pdivide_D hn (x := 1) (y := nV m) (by rw [D_one]; decide) (by omega) h0
    rw [D_one] at hd
    rw [hd]
    simp only [Option.bind_some]
    rw [gd_pos (okI64 (by omega) (by omega)), gd_pos (okI64 (by omega) (by omega))]
    have := pExp_l1_is hn (nV a) (nV e) (nV m) (decide ((nD (nV a)).length ≤ 64 ∧ (nD (nV e)).length ≤ 64)) (decide ((nD (nV m)).length ≤ 64 ∧ (nD (nV [])).length ≤ 64)) (nD (nV [])) (nD (nV [])).length h.1 h.2 h2 h0 (32 * (nD (nV e)).length) n (nD (1 % nV m)).length (by omega) (Nat.le_refl _)
    have hz : nV e / 2 ^ (32 * (nD (nV e)).length) = 0 := by
     rw [Nat.div_eq_of_lt]
     have := (D_len (nV e) (nD (nV e)).length).1 (Nat.le_refl _)
     rw [Nat.pow_mul]; exact this
    rw [hz, Nat.pow_zero, Int.natCast_mul] at this
    exact this
  ·rw [if_neg (fun h' => h2 h'.2.2), ite_t (by simp [h2])]
 ·rw [if_neg (fun h' => h ⟨h'.1, h'.2.1⟩), ite_t (by rw [decide_eq_false h]; rfl)]
end Go.Sx
end
section
namespace Go.Proofs.YthichmclbiggmaaDoor
open Go.RowKit Go.Ch Go.Sx
def tabL_dd : List (TypeId × Ti) := [(3, ⟨.int .i64, 1, 8, true, some [.int .i64]⟩),
 (5, ⟨.int .u8, 1, 1, true, some [.int .u8]⟩),
 (23, ⟨.sl 55, 1, 24, false, some [.nils]⟩),
 (26, ⟨.sl 5, 1, 24, false, some [.nils]⟩),
 (49, ⟨.sl 3, 1, 24, false, some [.nils]⟩),
 (55, ⟨.int .u32, 1, 4, true, some [.int .u32]⟩)]
def tab_dd : Tab := fun t => (tabL_dd).lookup t
theorem tabE_dd : (tabL_dd.map fun p => tiOf Tryd.prog p.1) = tabL_dd.map fun p => some p.2 := by kernel_rfl
theorem tabO_dd : TabOk Tryd.prog tab_dd := tab_of tabE_dd
def rtrim_l1 (n : Nat) (a0 : List Int) : Nat → Int → Option (List Int × Nat)
 | 0, _ => none
 | fu_l1 + 1, i3_2 =>
 bif (decide ((0 : Int) < i3_2)) then
 gd (okI .i64 (i3_2 - 1)) <|
 gd (0 ≤ (i3_2 - 1)) <|
 gd ((i3_2 - 1) < ((a0.length : Nat) : Int)) <|
 bif ((a0.getD ((i3_2 - 1).toNat) 0) == 0) then
 gd (okI .i64 (i3_2 - 1)) <|
 (rtrim_l1 n a0 fu_l1) (i3_2 - 1)
 else
 gd (0 ≤ i3_2) <|
 gd (i3_2 ≤ ((a0.length : Nat) : Int)) <|
 some (a0, i3_2.toNat)
 else
 gd (0 ≤ i3_2) <|
 gd (i3_2 ≤ ((a0.length : Nat) : Int)) <|
 some (a0, i3_2.toNat)
def rtrim (n : Nat) (a0 : List Int) : Option (List Int × Nat) :=
 rtrim_l1 n a0 n ((a0.length : Nat) : Int)
def rOf_l1 (n : Nat) (a0 : List UInt32) : Nat → List Int → Int → Option (List Int × Nat)
 | 0, _, _ => none
 | fu_l1 + 1, z3_2, i4_2 =>
  bif (decide (i4_2 < ((a0.length : Nat) : Int))) then
   gd (0 ≤ i4_2) <|
   gd (i4_2 < ((a0.length : Nat) : Int)) <|
   gd ((65536 : UInt32) ≠ 0) <|
   gd (0 ≤ i4_2) <|
   gd (i4_2 < ((a0.length : Nat) : Int)) <|
   gd ((65536 : UInt32) ≠ 0) <|
   gd (rmB (z3_2.length + 2) 8) <|
   gd (okI .i64 (i4_2 + 1)) <|
   (rOf_l1 n a0 fu_l1) (z3_2 ++ [((((a0.getD i4_2.toNat 0) % (65536 : UInt32)).toNat : Nat) : Int), ((((a0.getD i4_2.toNat 0) / (65536 : UInt32)).toNat : Nat) : Int)]) (i4_2 + 1)
  else
   (rtrim n z3_2).bind fun r27_2 =>
   some (((z3_2.drop 0).take r27_2.2), r27_2.2)
def rOf (n : Nat) (a0 : List UInt32) : Option (List Int × Nat) :=
 rOf_l1 n a0 n [] 0
def rCmp_l1 (n : Nat) (a0 : List Int) (a1 : List Int) : Nat → Int → Option (Int)
 | 0, _ => none
 | fu_l1 + 1, i5_2 =>
 bif (decide ((0 : Int) ≤ i5_2)) then
 gd (0 ≤ i5_2) <|
 gd (i5_2 < ((a0.length : Nat) : Int)) <|
 gd (0 ≤ i5_2) <|
 gd (i5_2 < ((a1.length : Nat) : Int)) <|
 bif ((a0.getD i5_2.toNat 0) != (a1.getD i5_2.toNat 0)) then
 gd (0 ≤ i5_2) <|
 gd (i5_2 < ((a0.length : Nat) : Int)) <|
 gd (0 ≤ i5_2) <|
 gd (i5_2 < ((a1.length : Nat) : Int)) <|
 bif (decide ((a0.getD i5_2.toNat 0) < (a1.getD i5_2.toNat 0))) then
 some (-1)
 else
 some 1
 else
 gd (okI .i64 (i5_2 - 1)) <|
 (rCmp_l1 n a0 a1 fu_l1) (i5_2 - 1)
 else
 some 0
def rCmp (n : Nat) (a0 : List Int) (a1 : List Int) : Option (Int) :=
 bif (((a0.length : Nat) : Int) != ((a1.length : Nat) : Int)) then
 bif (decide (((a0.length : Nat) : Int) < ((a1.length : Nat) : Int))) then
 some (-1)
 else
 some 1
 else
 gd (okI .i64 (((a0.length : Nat) : Int) - 1)) <|
 rCmp_l1 n a0 a1 n (((a0.length : Nat) : Int) - 1)
def rSize_j1 (n : Nat) (i3_2 : Int) : Option (Int) :=
 some i3_2
def rSize (n : Nat) (a0 : List Int) : Option (Int) :=
 gd (okI .i64 (2 * ((a0.length : Nat) : Int))) <|
 bif (decide ((0 : Int) < (2 * ((a0.length : Nat) : Int)))) then
 gd (okI .i64 (((a0.length : Nat) : Int) - 1)) <|
 gd (0 ≤ (((a0.length : Nat) : Int) - 1)) <|
 gd ((((a0.length : Nat) : Int) - 1) < ((a0.length : Nat) : Int)) <|
 bif (decide ((a0.getD ((((a0.length : Nat) : Int) - 1).toNat) 0) < (256 : Int))) then
 gd (okI .i64 ((2 * ((a0.length : Nat) : Int)) - 1)) <|
 rSize_j1 n ((2 * ((a0.length : Nat) : Int)) - 1)
 else
 rSize_j1 n (2 * ((a0.length : Nat) : Int))
 else
 rSize_j1 n (2 * ((a0.length : Nat) : Int))
def rdigit (n : Nat) (a0 : List Int) (a1 : Int) : Option (Int) :=
 bif (decide (a1 < ((a0.length : Nat) : Int))) then
 gd (0 ≤ a1) <|
 gd (a1 < ((a0.length : Nat) : Int)) <|
 some (a0.getD a1.toNat 0)
 else
 some 0
def rfit_j1 (n : Nat) (i6_2 : Int) : Option (Int) :=
 bif (i6_2 == 0) then
 some 1
 else
 some i6_2
def rfit (n : Nat) (a0 : List Int) (a1 : List Int) : Option (Int) :=
 bif (((a1.length : Nat) : Int) == 1) then
  (rdigit n a0 1).bind fun r12 =>
  gd (okI .i64 (r12 * 65536)) <|
  (rdigit n a0 0).bind fun r15 =>
  gd (okI .i64 ((r12 * 65536) + r15)) <|
  gd (0 ≤ (0 : Int)) <|
  gd ((0 : Int) < ((a1.length : Nat) : Int)) <|
  gd ((a1.getD 0 0) ≠ 0) <|
  gd (okI .i64 (Int.tdiv ((r12 * 65536) + r15) (a1.getD 0 0))) <|
  rfit_j1 n (Int.tdiv ((r12 * 65536) + r15) (a1.getD 0 0))
 else
  (rdigit n a0 ((a1.length : Nat) : Int)).bind fun r23 =>
  gd (okI .i64 (r23 * 65536)) <|
  gd (okI .i64 (((a1.length : Nat) : Int) - 1)) <|
  (rdigit n a0 (((a1.length : Nat) : Int) - 1)).bind fun r28 =>
  gd (okI .i64 ((r23 * 65536) + r28)) <|
  gd (okI .i64 (((r23 * 65536) + r28) * 65536)) <|
  gd (okI .i64 (((a1.length : Nat) : Int) - 2)) <|
  (rdigit n a0 (((a1.length : Nat) : Int) - 2)).bind fun r34 =>
  gd (okI .i64 ((((r23 * 65536) + r28) * 65536) + r34)) <|
  gd (okI .i64 (((a1.length : Nat) : Int) - 1)) <|
  gd (0 ≤ (((a1.length : Nat) : Int) - 1)) <|
  gd ((((a1.length : Nat) : Int) - 1) < ((a1.length : Nat) : Int)) <|
  gd (okI .i64 ((a1.getD ((((a1.length : Nat) : Int) - 1).toNat) 0) * 65536)) <|
  gd (okI .i64 (((a1.length : Nat) : Int) - 2)) <|
  gd (0 ≤ (((a1.length : Nat) : Int) - 2)) <|
  gd ((((a1.length : Nat) : Int) - 2) < ((a1.length : Nat) : Int)) <|
  gd (okI .i64 (((a1.getD ((((a1.length : Nat) : Int) - 1).toNat) 0) * 65536) + (a1.getD ((((a1.length : Nat) : Int) - 2).toNat) 0))) <|
  gd (okI .i64 ((((a1.getD ((((a1.length : Nat) : Int) - 1).toNat) 0) * 65536) + (a1.getD ((((a1.length : Nat) : Int) - 2).toNat) 0)) + 1)) <|
  gd (((((a1.getD ((((a1.length : Nat) : Int) - 1).toNat) 0) * 65536) + (a1.getD ((((a1.length : Nat) : Int) - 2).toNat) 0)) + 1) ≠ 0) <|
  gd (okI .i64 (Int.tdiv ((((r23 * 65536) + r28) * 65536) + r34) ((((a1.getD ((((a1.length : Nat) : Int) - 1).toNat) 0) * 65536) + (a1.getD ((((a1.length : Nat) : Int) - 2).toNat) 0)) + 1))) <|
  rfit_j1 n (Int.tdiv ((((r23 * 65536) + r28) * 65536) + r34) ((((a1.getD ((((a1.length : Nat) : Int) - 1).toNat) 0) * 65536) + (a1.getD ((((a1.length : Nat) : Int) - 2).toNat) 0)) + 1))
def rMul_l2 (n : Nat) (a0 : List Int) (a1 : List Int) (i6_2 : Int) (k_l1 : (List Int) → Int → Option (List Int × Nat)) : Nat → List Int → Int → Int → Option (List Int × Nat)
 | 0, _, _, _ => none
 | fu_l2 + 1, z5_11, i7_8, i8_8 =>
 bif (decide (i8_8 < ((a1.length : Nat) : Int))) then
 gd (0 ≤ i6_2) <|
 gd (i6_2 < ((a0.length : Nat) : Int)) <|
 gd (0 ≤ i8_8) <|
 gd (i8_8 < ((a1.length : Nat) : Int)) <|
 gd (okI .i64 ((a0.getD i6_2.toNat 0) * (a1.getD i8_8.toNat 0))) <|
 gd (okI .i64 (i7_8 + ((a0.getD i6_2.toNat 0) * (a1.getD i8_8.toNat 0)))) <|
 gd (okI .i64 (i6_2 + i8_8)) <|
 gd (0 ≤ (i6_2 + i8_8)) <|
 gd ((i6_2 + i8_8) < (((((a0.length : Nat) : Int) + ((a1.length : Nat) : Int)).toNat : Nat) : Int)) <|
 gd (okI .i64 ((i7_8 + ((a0.getD i6_2.toNat 0) * (a1.getD i8_8.toNat 0))) + (z5_11.getD ((i6_2 + i8_8).toNat) 0))) <|
 gd (okI .i64 (i6_2 + i8_8)) <|
 gd ((65536 : Int) ≠ 0) <|
 gd (0 ≤ (i6_2 + i8_8)) <|
 gd ((i6_2 + i8_8) < (((((a0.length : Nat) : Int) + ((a1.length : Nat) : Int)).toNat : Nat) : Int)) <|
 gd ((65536 : Int) ≠ 0) <|
 gd (okI .i64 (Int.tdiv ((i7_8 + ((a0.getD i6_2.toNat 0) * (a1.getD i8_8.toNat 0))) + (z5_11.getD ((i6_2 + i8_8).toNat) 0)) 65536)) <|
 gd (okI .i64 (i8_8 + 1)) <|
 (rMul_l2 n a0 a1 i6_2 k_l1 fu_l2) (z5_11.set ((i6_2 + i8_8).toNat) (Int.tmod ((i7_8 + ((a0.getD i6_2.toNat 0) * (a1.getD i8_8.toNat 0))) + (z5_11.getD ((i6_2 + i8_8).toNat) 0)) 65536)) (Int.tdiv ((i7_8 + ((a0.getD i6_2.toNat 0) * (a1.getD i8_8.toNat 0))) + (z5_11.getD ((i6_2 + i8_8).toNat) 0)) 65536) (i8_8 + 1)
 else
 gd (okI .i64 (i6_2 + ((a1.length : Nat) : Int))) <|
 gd (0 ≤ (i6_2 + ((a1.length : Nat) : Int))) <|
 gd ((i6_2 + ((a1.length : Nat) : Int)) < (((((a0.length : Nat) : Int) + ((a1.length : Nat) : Int)).toNat : Nat) : Int)) <|
 gd (okI .i64 (i6_2 + 1)) <|
 k_l1 (z5_11.set ((i6_2 + ((a1.length : Nat) : Int)).toNat) i7_8) (i6_2 + 1)
def rMul_l1 (n : Nat) (a0 : List Int) (a1 : List Int) : Nat → List Int → Int → Option (List Int × Nat)
 | 0, _, _ => none
 | fu_l1 + 1, z5_9, i6_2 =>
  bif (decide (i6_2 < ((a0.length : Nat) : Int))) then
   rMul_l2 n a0 a1 i6_2 (rMul_l1 n a0 a1 fu_l1) n z5_9 0 0
  else
   (rtrim n z5_9).bind fun r62_2 =>
   some (((z5_9.drop 0).take r62_2.2), r62_2.2)
def rMul (n : Nat) (a0 : List Int) (a1 : List Int) : Option (List Int × Nat) :=
 gd (okI .i64 (((a0.length : Nat) : Int) + ((a1.length : Nat) : Int))) <|
 gd (0 ≤ (((a0.length : Nat) : Int) + ((a1.length : Nat) : Int))) <|
 gd ((((a0.length : Nat) : Int) + ((a1.length : Nat) : Int)) = (((a0.length : Nat) : Int) + ((a1.length : Nat) : Int))) <|
 gd (rmB ((((a0.length : Nat) : Int) + ((a1.length : Nat) : Int)).toNat) 8) <|
 rMul_l1 n a0 a1 n (List.replicate ((((a0.length : Nat) : Int) + ((a1.length : Nat) : Int)).toNat) 0) 0
def rSub_j1 (n : Nat) (a0 : List Int) (a1 : List Int) (z5_2 : List Int) (i7_2 : Int) (k_l1 : (List Int) → Int → Int → Option (List Int × Nat)) (i6_11 : Int) (i8_8 : Int) : Option (List Int × Nat) :=
 gd (rmB (z5_2.length + 1) 8) <|
 gd (okI .i64 (i7_2 + 1)) <|
 k_l1 (z5_2 ++ [i8_8]) i6_11 (i7_2 + 1)
def rSub_l1 (n : Nat) (a0 : List Int) (a1 : List Int) : Nat → List Int → Int → Int → Option (List Int × Nat)
 | 0, _, _, _ => none
 | fu_l1 + 1, z5_2, i6_9, i7_2 =>
  bif (decide (i7_2 < ((a0.length : Nat) : Int))) then
   gd (0 ≤ i7_2) <|
   gd (i7_2 < ((a0.length : Nat) : Int)) <|
   (rdigit n a1 i7_2).bind fun r21_3 =>
   gd (okI .i64 ((a0.getD i7_2.toNat 0) - r21_3)) <|
   gd (okI .i64 (((a0.getD i7_2.toNat 0) - r21_3) - i6_9)) <|
   bif (decide ((((a0.getD i7_2.toNat 0) - r21_3) - i6_9) < (0 : Int))) then
    gd (okI .i64 ((((a0.getD i7_2.toNat 0) - r21_3) - i6_9) + 65536)) <|
    rSub_j1 n a0 a1 z5_2 i7_2 (rSub_l1 n a0 a1 fu_l1) 1 ((((a0.getD i7_2.toNat 0) - r21_3) - i6_9) + 65536)
   else
    rSub_j1 n a0 a1 z5_2 i7_2 (rSub_l1 n a0 a1 fu_l1) 0 (((a0.getD i7_2.toNat 0) - r21_3) - i6_9)
  else
   (rtrim n z5_2).bind fun r34_2 =>
   some (((z5_2.drop 0).take r34_2.2), r34_2.2)
def rSub (n : Nat) (a0 : List Int) (a1 : List Int) : Option (List Int × Nat) :=
 rSub_l1 n a0 a1 n [] 0 0
def rDiv_l2 (n : Nat) (a0 : List Int) (a1 : List Int) (i8_1 : Int) (k_l1 : (List Int) → (List Int) → Nat → Int → Option (List Int × Nat × List Int × Nat)) : Nat → List Int → List Int → Nat → Option (List Int × Nat × List Int × Nat)
 | 0, _, _, _ => none
 | fu_l2 + 1, z6_7, z7_7, m7_7 =>
  (rCmp n z7_7 a1).bind fun r30_8 =>
  bif (decide ((0 : Int) ≤ r30_8)) then
   (rfit n z7_7 a1).bind fun r34_8 =>
   gd (0 ≤ i8_1) <|
   gd (i8_1 < ((((a0.length : Nat) : Int).toNat : Nat) : Int)) <|
   gd (okI .i64 ((z6_7.getD i8_1.toNat 0) + r34_8)) <|
   gd (0 ≤ i8_1) <|
   gd (i8_1 < ((((a0.length : Nat) : Int).toNat : Nat) : Int)) <|
   (rMul n a1 [r34_8]).bind fun r48_8 =>
   (rSub n z7_7 r48_8.1).bind fun r49_8 =>
   (rDiv_l2 n a0 a1 i8_1 k_l1 fu_l2) (z6_7.set i8_1.toNat ((z6_7.getD i8_1.toNat 0) + r34_8)) r49_8.1 r49_8.2
  else
   gd (okI .i64 (i8_1 - 1)) <|
   k_l1 z6_7 z7_7 m7_7 (i8_1 - 1)
def rDiv_l1 (n : Nat) (a0 : List Int) (a1 : List Int) : Nat → List Int → List Int → Nat → Int → Option (List Int × Nat × List Int × Nat)
 | 0, _, _, _, _ => none
 | fu_l1 + 1, z6_5, z7_5, m7_5, i8_1 =>
  bif (decide ((0 : Int) ≤ i8_1)) then
   gd (0 ≤ i8_1) <|
   gd (i8_1 < ((a0.length : Nat) : Int)) <|
   gd (rmB (1 + m7_5) 8) <|
   (rtrim n ([(a0.getD i8_1.toNat 0)] ++ z7_5)).bind fun r27_2 =>
   rDiv_l2 n a0 a1 i8_1 (rDiv_l1 n a0 a1 fu_l1) n z6_5 ((([(a0.getD i8_1.toNat 0)] ++ z7_5).drop 0).take r27_2.2) r27_2.2
  else
   (rtrim n z6_5).bind fun r51_1 =>
   some (((z6_5.drop 0).take r51_1.2), r51_1.2, z7_5, m7_5)
def rDiv (n : Nat) (a0 : List Int) (a1 : List Int) : Option (List Int × Nat × List Int × Nat) :=
 gd (0 ≤ ((a0.length : Nat) : Int)) <|
 gd (((a0.length : Nat) : Int) = ((a0.length : Nat) : Int)) <|
 gd (rmB (((a0.length : Nat) : Int).toNat) 8) <|
 gd (okI .i64 (((a0.length : Nat) : Int) - 1)) <|
 rDiv_l1 n a0 a1 n (List.replicate (((a0.length : Nat) : Int).toNat) 0) [] 0 (((a0.length : Nat) : Int) - 1)
def rRest (n : Nat) (a0 : List Int) (a1 : List Int) : Option (List Int × Nat) :=
 (rDiv n a0 a1).bind fun r10 =>
 some (r10.2.2.1, r10.2.2.2)
def rExp_j1 (n : Nat) (a1 : List Int) (a2 : List Int) (r15 : List Int × Nat) (i9_2 : Int) (k_l1 : (List Int) → Nat → Int → Option (List Int × Nat)) (z7_11 : List Int) (m7_11 : Nat) : Option (List Int × Nat) :=
 gd (okI .i64 (i9_2 - 1)) <|
 k_l1 z7_11 m7_11 (i9_2 - 1)
def rExp_l1 (n : Nat) (a1 : List Int) (a2 : List Int) (r15 : List Int × Nat) : Nat → List Int → Nat → Int → Option (List Int × Nat)
 | 0, _, _, _ => none
 | fu_l1 + 1, z7_9, m7_9, i9_2 =>
  bif (decide ((0 : Int) ≤ i9_2)) then
   (rMul n z7_9 z7_9).bind fun r26_3 =>
   (rRest n r26_3.1 a2).bind fun r28_3 =>
   gd ((16 : Int) ≠ 0) <|
   gd (okI .i64 (Int.tdiv i9_2 16)) <|
   gd (0 ≤ (Int.tdiv i9_2 16)) <|
   gd ((Int.tdiv i9_2 16) < ((a1.length : Nat) : Int)) <|
   gd ((16 : Int) ≠ 0) <|
   gd (0 ≤ (Int.tmod i9_2 16)) <|
   gd ((Int.tmod i9_2 16) ≤ (((IntKind.i64).bits : Nat) : Int)) <|
   bif ((bitI .and .i64 ((a1.getD ((Int.tdiv i9_2 16).toNat) 0) / 2 ^ ((Int.tmod i9_2 16).toNat)) 1) == 1) then
    (rMul n r28_3.1 r15.1).bind fun r41_3 =>
    (rRest n r41_3.1 a2).bind fun r43_3 =>
    rExp_j1 n a1 a2 r15 i9_2 (rExp_l1 n a1 a2 r15 fu_l1) r43_3.1 r43_3.2
   else
    rExp_j1 n a1 a2 r15 i9_2 (rExp_l1 n a1 a2 r15 fu_l1) r28_3.1 r28_3.2
  else
   some (z7_9, m7_9)
def rExp (n : Nat) (a0 : List Int) (a1 : List Int) (a2 : List Int) : Option (List Int × Nat) :=
 (rRest n [1] a2).bind fun r12 =>
 (rRest n a0 a2).bind fun r15 =>
 gd (okI .i64 (16 * ((a1.length : Nat) : Int))) <|
 gd (okI .i64 ((16 * ((a1.length : Nat) : Int)) - 1)) <|
 rExp_l1 n a1 a2 r15 n r12.1 r12.2 ((16 * ((a1.length : Nat) : Int)) - 1)
def rBytes_j1 (n : Nat) (a0 : List UInt8) (z3_2 : List Int) (i4_2 : Int) (k_l1 : (List Int) → Int → Option (List Int × Nat)) (i5_8 : Int) : Option (List Int × Nat) :=
 gd (rmB (z3_2.length + 1) 8) <|
 gd (okI .i64 (i4_2 - 2)) <|
 k_l1 (z3_2 ++ [i5_8]) (i4_2 - 2)
def rBytes_l1 (n : Nat) (a0 : List UInt8) : Nat → List Int → Int → Option (List Int × Nat)
 | 0, _, _ => none
 | fu_l1 + 1, z3_2, i4_2 =>
  bif (decide ((0 : Int) ≤ i4_2)) then
   gd (0 ≤ i4_2) <|
   gd (i4_2 < ((a0.length : Nat) : Int)) <|
   bif (decide ((0 : Int) < i4_2)) then
    gd (okI .i64 (i4_2 - 1)) <|
    gd (0 ≤ (i4_2 - 1)) <|
    gd ((i4_2 - 1) < ((a0.length : Nat) : Int)) <|
    gd (okI .i64 ((((a0.getD ((i4_2 - 1).toNat) 0).toNat : Nat) : Int) * 256)) <|
    gd (okI .i64 ((((a0.getD i4_2.toNat 0).toNat : Nat) : Int) + ((((a0.getD ((i4_2 - 1).toNat) 0).toNat : Nat) : Int) * 256))) <|
    rBytes_j1 n a0 z3_2 i4_2 (rBytes_l1 n a0 fu_l1) ((((a0.getD i4_2.toNat 0).toNat : Nat) : Int) + ((((a0.getD ((i4_2 - 1).toNat) 0).toNat : Nat) : Int) * 256))
   else
    rBytes_j1 n a0 z3_2 i4_2 (rBytes_l1 n a0 fu_l1) (((a0.getD i4_2.toNat 0).toNat : Nat) : Int)
  else
   (rtrim n z3_2).bind fun r34_2 =>
   some (((z3_2.drop 0).take r34_2.2), r34_2.2)
def rBytes (n : Nat) (a0 : List UInt8) : Option (List Int × Nat) :=
 gd (okI .i64 (((a0.length : Nat) : Int) - 1)) <|
 rBytes_l1 n a0 n [] (((a0.length : Nat) : Int) - 1)
def rWrite_j1 (n : Nat) (a0 : List Int) (a1 : Int) (l6_1 : List UInt8) (i7_1 : Int) (k_l1 : (List UInt8) → Int → Option (List UInt8 × Nat × Bool)) (i8_5 : Int) : Option (List UInt8 × Nat × Bool) :=
 gd (okI .i64 (a1 - 1)) <|
 gd (okI .i64 ((a1 - 1) - i7_1)) <|
 gd ((256 : Int) ≠ 0) <|
 gd (0 ≤ ((a1 - 1) - i7_1)) <|
 gd (((a1 - 1) - i7_1) < ((a1.toNat : Nat) : Int)) <|
 gd (okI .i64 (i7_1 + 1)) <|
 k_l1 (l6_1.set (((a1 - 1) - i7_1).toNat) (UInt8.ofInt (Int.tmod i8_5 256))) (i7_1 + 1)
def rWrite_l1 (n : Nat) (a0 : List Int) (a1 : Int) : Nat → List UInt8 → Int → Option (List UInt8 × Nat × Bool)
 | 0, _, _ => none
 | fu_l1 + 1, l6_1, i7_1 =>
 bif (decide (i7_1 < a1)) then
 gd ((2 : Int) ≠ 0) <|
 gd (okI .i64 (Int.tdiv i7_1 2)) <|
 bif (decide ((Int.tdiv i7_1 2) < ((a0.length : Nat) : Int))) then
 gd ((2 : Int) ≠ 0) <|
 gd (okI .i64 (Int.tdiv i7_1 2)) <|
 gd (0 ≤ (Int.tdiv i7_1 2)) <|
 gd ((Int.tdiv i7_1 2) < ((a0.length : Nat) : Int)) <|
 gd ((2 : Int) ≠ 0) <|
 bif ((Int.tmod i7_1 2) == 1) then
 gd ((256 : Int) ≠ 0) <|
 gd (okI .i64 (Int.tdiv (a0.getD ((Int.tdiv i7_1 2).toNat) 0) 256)) <|
 rWrite_j1 n a0 a1 l6_1 i7_1 (rWrite_l1 n a0 a1 fu_l1) (Int.tdiv (a0.getD ((Int.tdiv i7_1 2).toNat) 0) 256)
 else
 rWrite_j1 n a0 a1 l6_1 i7_1 (rWrite_l1 n a0 a1 fu_l1) (a0.getD ((Int.tdiv i7_1 2).toNat) 0)
 else
 some (l6_1, a1.toNat, true)
 else
 some (l6_1, a1.toNat, true)
def rWrite (n : Nat) (a0 : List Int) (a1 : Int) : Option (List UInt8 × Nat × Bool) :=
 bif (decide (a1 < (0 : Int))) then
  some ([], 0, false)
 else
  (rSize n a0).bind fun r13 =>
  bif (decide (a1 < r13)) then
   some ([], 0, false)
  else
   gd (0 ≤ a1) <|
   gd (a1 = a1) <|
   gd (rmB a1.toNat 1) <|
   rWrite_l1 n a0 a1 n (List.replicate a1.toNat 0) 0
def rtrim_l1_E (a0 : List Int) (i3_2 : Int) : S := ⟨[(0, kH 0), (3, kI i3_2)], [(1000000, kH 0)], [oz 3 a0]⟩
abbrev rtrim_l1_P (n : Nat) (a0 : List Int) (r : List Int × Nat) (fu : Nat) : S → Prop := fun s => ∃ (i3_2 : Int), s = rtrim_l1_E a0 i3_2 ∧ rtrim_l1 n a0 fu i3_2 = some r
def rtrim_R (r : List Int × Nat) : S := ⟨[(2, .c (.sl 0 0 r.2))], [(1000000, kH 0)], [oz 3 r.1]⟩
def rtrim_ct (n : Nat) (r : List Int × Nat) : Ct := ctc aZ fun x0 l0 => ctl (fun H => subC 0 r.2 x0) fun ys => ct0 fun H => ([rtrim n l0 = some r], ys, [])
theorem rtrim_ok (n : Nat) (r : List Int × Nat) : FnOk Tryd.prog Tr 40 (rtrim_ct n r) := by
 refine ⟨fun args H g av objs hF hg ρ w vals hG hp ha => ?_, _, Tryd.func40, by kernel_rfl, by kernel_rfl⟩
 obtain ⟨x0, _, l0, rfl, e0, hF⟩ := ctc_inv hF
 obtain ⟨ys, e1, hF⟩ := ctl_inv hF
 obtain ⟨rfl, rfl, rfl, rfl⟩ := ct0_inv hF
 dsimp only
 obtain ⟨v0, vals, rfl, k0, ha⟩ := F2.inv ha
 obtain rfl := F2.inv0 ha
 have h : rtrim n l0 = some r := hg
 obtain ⟨p0, s0, o0⟩ := aZ_ok hp e0 (k0) 3
 have kk := k0
 have zz := aZ_sz hp e0
 have hR0 := rel0 (gv := (fun j => ([v0] : List Value).getD j undef)) (n := 21) (w := w) (args := [kH 0]) (H := [⟨.ro false, 3, 1, l0.length, .z l0⟩]) (gl := [(1000000, .c (.wh 0))]) (hpL (ps := [p0]) (F2.cons o0 F2.nil)) (allRo_ok rfl) (F2.cons s0 F2.nil) (GlR.cons 0 s0 GlR.nil) (by simp)
 clear ha hp hg hF k0 e0
 refine calls_W Tryd.func40 rfl rfl hR0 (Q := fun e s => (e = .ret ∨ e = .normal) ∧ s = rtrim_R r) ?_ ?_
 ·clear hR0
  unfold rtrim at h
  have hT := tabO_dd
  refine Vrs hT [0] ⟨[(0, kH 0)], [(1000000, kH 0)], [oz 3 l0]⟩ ?_
  refine Vrs hT [0] ⟨[(0, kH 0), (3, kI ((l0.length : Nat) : Int))], [(1000000, kH 0)], [oz 3 l0]⟩ ?_
  refine W_seq ?_
  refine W_block ?_
  refine Vc [] [0] (rtrim_l1_E l0 ((l0.length : Nat) : Int)) (W_lp ((rtrim_l1_P n l0 r)) n ⟨_, rfl, h⟩ ?_)
  rintro fu_l1 _ ⟨i3_2, rfl, h⟩
  cases fu_l1 with
  | zero => cases h
  | succ fu_l1 =>
   refine ⟨fu_l1, rfl, ?_⟩
   rw [rtrim_l1] at h
   refine W_seq ?_
   refine W_seq ?_
   rcases Bool.eq_false_or_eq_true (decide ((0 : Int) < i3_2)) with g1 | g1
   ·replace h := bif_t h g1
    obtain ⟨g2, g3, g4, h⟩ := gd3 h
    refine Vg hT fN [(2, true)] [] [0] ⟨[(0, kH 0), (3, kI i3_2), (15, kB ((l0.getD ((i3_2 - 1).toNat) 0) == 0))], [(1000000, kH 0)], [oz 3 l0]⟩ (aP g1 (aP g2 (aP g3 (aP g4 aN)))) ?_
    refine Vi (((l0.getD ((i3_2 - 1).toNat) 0) == 0)) (fun g8 => ?_) (fun g8 => ?_)
    ·replace h := bif_t h g8
     refine W_skip ?_
     refine W_block ?_
     obtain ⟨g5, h⟩ := gd_some h
     refine Vg hT fN [] [] [0] (rtrim_l1_E l0 (i3_2 - 1)) (aP g5 aN) ?_
     exact ⟨_, rfl, h⟩
    ·replace h := bif_f h g8
     refine Vc [] [0] ⟨[(0, kH 0), (3, kI i3_2)], [(1000000, kH 0)], [oz 3 l0]⟩ (W_exit ?_)
     obtain ⟨g6, g7, h⟩ := gd2 h
     refine Vgs hT fN [] [] [0] ⟨[(2, .c (.sl 0 0 i3_2.toNat))], [(1000000, kH 0)], [oz 3 l0]⟩ (aP g6 (aP g7 aN)) ?_
     refine Vc [] [0] (rtrim_R (l0, i3_2.toNat)) (W_ret ?_)
     exact ⟨.inl rfl, by cases h; rfl⟩
   ·replace h := bif_f h g1
    refine Vg hT fN [(2, false)] [] [0] ⟨[(0, kH 0), (3, kI i3_2), (15, kB false)], [(1000000, kH 0)], [oz 3 l0]⟩ (aP g1 aN) ?_
    refine Vi (false) (fun hb => by cases hb) (fun _ => ?_)
    refine Vc [] [0] ⟨[(0, kH 0), (3, kI i3_2)], [(1000000, kH 0)], [oz 3 l0]⟩ (W_exit ?_)
    obtain ⟨g9, g10, h⟩ := gd2 h
    refine Vgs hT fN [] [] [0] ⟨[(2, .c (.sl 0 0 i3_2.toNat))], [(1000000, kH 0)], [oz 3 l0]⟩ (aP g9 (aP g10 aN)) ?_
    refine Vc [] [0] (rtrim_R (l0, i3_2.toNat)) (W_ret ?_)
    exact ⟨.inl rfl, by cases h; rfl⟩
 ·rintro e s' ⟨he, rfl⟩
  refine ⟨he, fun a' w' hr => ?_⟩
  exact retB_ok (q := 0) hr rfl rfl rfl (by kernel_rfl) kk zz e1
def rOf_l1_E (a0 : List UInt32) (z3_2 : List Int) (i4_2 : Int) : S := ⟨[(0, kH 0), (3, kH 1), (4, kI i4_2)], [], [ow 55 a0, nz 3 z3_2]⟩
abbrev rOf_l1_P (n : Nat) (a0 : List UInt32) (r : List Int × Nat) (fu : Nat) : S → Prop := fun s => ∃ (z3_2 : List Int), ∃ (i4_2 : Int), s = rOf_l1_E a0 z3_2 i4_2 ∧ rOf_l1 n a0 fu z3_2 i4_2 = some r
def rOf_R (r : List Int × Nat) : S := ⟨[(2, kH 0)], [], [⟨(.ro true), 3, 1, r.2, .z r.1⟩]⟩
def rOf_ct (n : Nat) (r : List Int × Nat) : Ct := ctc aW fun x0 l0 => ct0 fun H => ([rOf n l0 = some r], shA H.length (kH 0), shH H.length [⟨(.ro true), 3, 1, r.2, .z r.1⟩])
theorem rOf_ok (n : Nat) (r : List Int × Nat) : FnOk Tryd.prog Tr 21 (rOf_ct n r) := by
 refine ⟨fun args H g av objs hF hg ρ w vals hG hp ha => ?_, _, Tryd.func21, by kernel_rfl, by kernel_rfl⟩
 obtain ⟨x0, _, l0, rfl, e0, hF⟩ := ctc_inv hF
 obtain ⟨rfl, rfl, rfl, rfl⟩ := ct0_inv hF
 dsimp only
 obtain ⟨v0, vals, rfl, k0, ha⟩ := F2.inv ha
 obtain rfl := F2.inv0 ha
 have h : rOf n l0 = some r := hg
 obtain ⟨p0, s0, o0⟩ := aW_ok hp e0 (k0) 55
 have hR0 := rel0 (gv := (fun _ => undef)) (n := 28) (w := w) (args := [kH 0]) (H := [⟨.ro false, 55, 1, l0.length, .w l0⟩]) (gl := []) (hpL (ps := [p0]) (F2.cons o0 F2.nil)) (allRo_ok rfl) (F2.cons s0 F2.nil) GlR.nil (by simp)
 clear ha hp hg hF k0 e0
 refine calls_W Tryd.func21 rfl rfl hR0 (Q := fun e s => (e = .ret ∨ e = .normal) ∧ s = rOf_R r) ?_ ?_
 ·clear hR0
  unfold rOf at h
  have hT := tabO_dd
  refine Vrs hT [0] ⟨[(0, kH 0)], [], [ow 55 l0]⟩ ?_
  refine Vrs hT [0] ⟨[(0, kH 0), (3, .c (.nils))], [], [ow 55 l0]⟩ ?_
  refine W_seq ?_
  refine Vrs hT [0] ⟨[(0, kH 0), (3, .c (.nils)), (4, kI 0)], [], [ow 55 l0]⟩ ?_
  refine W_block ?_
  refine Vc [.nil 3 3 1 (.z [])] [0, 1] (rOf_l1_E l0 [] 0) (W_lp ((rOf_l1_P n l0 r)) n ⟨_, _, rfl, h⟩ ?_)
  rintro fu_l1 _ ⟨z3_2, i4_2, rfl, h⟩
  cases fu_l1 with
  | zero => cases h
  | succ fu_l1 =>
   refine ⟨fu_l1, rfl, ?_⟩
   rw [rOf_l1] at h
   refine W_seq ?_
   refine Vrs hT [0, 1] ⟨[(0, kH 0), (3, kH 1), (4, kI i4_2), (8, kB (decide (i4_2 < ((l0.length : Nat) : Int))))], [], [ow 55 l0, nz 3 z3_2]⟩ ?_
   refine Vi ((decide (i4_2 < ((l0.length : Nat) : Int)))) (fun g10 => ?_) (fun g10 => ?_)
   ·replace h := bif_t h g10
    refine W_skip ?_
    refine W_seq ?_
    refine W_block ?_
    obtain ⟨g1, g2, g3, g4, g5, h⟩ := gd5 h
    obtain ⟨g6, g7, h⟩ := gd2 h
    refine Vd hT fN 14 [] [(0, false), (3, false), (4, false), (11, false), (24, false)] [] [0, 3] ⟨[(0, kH 0), (3, kH 1), (4, kI i4_2)], [], [ow 55 l0, nz 3 (z3_2 ++ [((((l0.getD i4_2.toNat 0) % (65536 : UInt32)).toNat : Nat) : Int), ((((l0.getD i4_2.toNat 0) / (65536 : UInt32)).toNat : Nat) : Int)])]⟩ (aP g1 (aP g2 (aP g3 (aP g4 (aP g5 (aP g6 (aP g7 aN))))))) ?_
    obtain ⟨g8, h⟩ := gd_some h
    refine Vg hT fN [] [] [0, 1] (rOf_l1_E l0 (z3_2 ++ [((((l0.getD i4_2.toNat 0) % (65536 : UInt32)).toNat : Nat) : Int), ((((l0.getD i4_2.toNat 0) / (65536 : UInt32)).toNat : Nat) : Int)]) (i4_2 + 1)) (aP g8 aN) ?_
    exact ⟨_, _, rfl, h⟩
   ·replace h := bif_f h g10
    refine Vc [] [1] ⟨[(3, kH 0)], [], [nz 3 z3_2]⟩ (W_exit ?_)
    obtain ⟨r27_2, g9, h⟩ := bind_some' h
    refine Vgs hT (fT 1 (rtrim_ok n r27_2) fN) [] [] [0] ⟨[(2, .c (.sl 0 0 r27_2.2))], [], [nz 3 z3_2]⟩ (aP g9 aN) ?_
    refine Vc [.vw 2 true] [1] (rOf_R (((z3_2.drop 0).take r27_2.2), r27_2.2)) (W_ret ?_)
    exact ⟨.inl rfl, by cases h; rfl⟩
 ·rintro e s' ⟨he, rfl⟩
  refine ⟨he, fun a' w' hr => ?_⟩
  exact retS_ok tabO_dd hr (rs := [.tmp 2]) rfl (objs := [0]) (by kernel_rfl)
def rCmp_l1_E (a0 : List Int) (a1 : List Int) (i5_2 : Int) : S := ⟨[(0, kH 0), (1, kH 1), (5, kI i5_2)], [], [oz 3 a0, oz 3 a1]⟩
abbrev rCmp_l1_P (n : Nat) (a0 : List Int) (a1 : List Int) (r : Int) (fu : Nat) : S → Prop := fun s => ∃ (i5_2 : Int), s = rCmp_l1_E a0 a1 i5_2 ∧ rCmp_l1 n a0 a1 fu i5_2 = some r
def rCmp_R (r : Int) : S := ⟨[(4, kI r)], [], []⟩
def rCmp_ct (n : Nat) (r : Int) : Ct := ctc aZ fun x0 l0 => ctc aZ fun x1 l1 => ct0 fun H => ([rCmp n l0 l1 = some r], shA H.length (kI r), shH H.length [])
theorem rCmp_ok (n : Nat) (r : Int) : FnOk Tryd.prog Tr 20 (rCmp_ct n r) := by
 refine ⟨fun args H g av objs hF hg ρ w vals hG hp ha => ?_, _, Tryd.func20, by kernel_rfl, by kernel_rfl⟩
 obtain ⟨x0, _, l0, rfl, e0, hF⟩ := ctc_inv hF
 obtain ⟨x1, _, l1, rfl, e1, hF⟩ := ctc_inv hF
 obtain ⟨rfl, rfl, rfl, rfl⟩ := ct0_inv hF
 dsimp only
 obtain ⟨v0, vals, rfl, k0, ha⟩ := F2.inv ha
 obtain ⟨v1, vals, rfl, k1, ha⟩ := F2.inv ha
 obtain rfl := F2.inv0 ha
 have h : rCmp n l0 l1 = some r := hg
 obtain ⟨p0, s0, o0⟩ := aZ_ok hp e0 (k0) 3
 obtain ⟨p1, s1, o1⟩ := aZ_ok hp e1 (k1) 3
 have hR0 := rel0 (gv := (fun _ => undef)) (n := 41) (w := w) (args := [kH 0, kH 1]) (H := [⟨.ro false, 3, 1, l0.length, .z l0⟩, ⟨.ro false, 3, 1, l1.length, .z l1⟩]) (gl := []) (hpL (ps := [p0, p1]) (F2.cons o0 (F2.cons o1 F2.nil))) (allRo_ok rfl) (F2.cons s0 (F2.cons s1 F2.nil)) GlR.nil (by simp)
 clear ha hp hg hF k0 k1 e0 e1
 refine calls_W Tryd.func20 rfl rfl hR0 (Q := fun e s => (e = .ret ∨ e = .normal) ∧ s = rCmp_R r) ?_ ?_
 ·clear hR0
  unfold rCmp at h
  have hT := tabO_dd
  refine Vrs hT [0, 1] ⟨[(0, kH 0), (1, kH 1)], [], [oz 3 l0, oz 3 l1]⟩ ?_
  refine W_seq ?_
  refine Vrs hT [0, 1] ⟨[(0, kH 0), (1, kH 1), (10, kB (((l0.length : Nat) : Int) != ((l1.length : Nat) : Int)))], [], [oz 3 l0, oz 3 l1]⟩ ?_
  refine Vi ((((l0.length : Nat) : Int) != ((l1.length : Nat) : Int))) (fun g15 => ?_) (fun g15 => ?_)
  ·replace h := bif_t h g15
   refine W_seq ?_
   refine Vrs hT [] ⟨[(15, kB (decide (((l0.length : Nat) : Int) < ((l1.length : Nat) : Int))))], [], []⟩ ?_
   refine Vi ((decide (((l0.length : Nat) : Int) < ((l1.length : Nat) : Int)))) (fun g1 => ?_) (fun g1 => ?_)
   ·replace h := bif_t h g1
    refine Vrs hT [] ⟨[(4, kI (-1))], [], []⟩ ?_
    refine Vc [] [] (rCmp_R (-1)) (W_ret ?_)
    exact ⟨.inl rfl, by cases h; rfl⟩
   ·replace h := bif_f h g1
    refine W_skip ?_
    refine Vrs hT [] ⟨[(4, kI 1)], [], []⟩ ?_
    refine Vc [] [] (rCmp_R 1) (W_ret ?_)
    exact ⟨.inl rfl, by cases h; rfl⟩
  ·replace h := bif_f h g15
   refine W_skip ?_
   refine W_seq ?_
   obtain ⟨g2, h⟩ := gd_some h
   refine Vgs hT fN [] [] [0, 1] ⟨[(0, kH 0), (1, kH 1), (5, kI (((l0.length : Nat) : Int) - 1))], [], [oz 3 l0, oz 3 l1]⟩ (aP g2 aN) ?_
   refine W_block ?_
   refine Vc [] [0, 1] (rCmp_l1_E l0 l1 (((l0.length : Nat) : Int) - 1)) (W_lp ((rCmp_l1_P n l0 l1 r)) n ⟨_, rfl, h⟩ ?_)
   rintro fu_l1 _ ⟨i5_2, rfl, h⟩
   cases fu_l1 with
   | zero => cases h
   | succ fu_l1 =>
    refine ⟨fu_l1, rfl, ?_⟩
    rw [rCmp_l1] at h
    refine W_seq ?_
    refine Vrs hT [0, 1] ⟨[(0, kH 0), (1, kH 1), (5, kI i5_2), (20, kB (decide ((0 : Int) ≤ i5_2)))], [], [oz 3 l0, oz 3 l1]⟩ ?_
    refine Vi ((decide ((0 : Int) ≤ i5_2))) (fun g14 => ?_) (fun g14 => ?_)
    ·replace h := bif_t h g14
     refine W_skip ?_
     refine W_seq ?_
     refine W_block ?_
     obtain ⟨g3, g4, g5, g6, h⟩ := gd4 h
     refine Vds hT fN 8 [] [(0, false), (1, false), (5, false), (26, false), (30, false)] [] [0, 1] ⟨[(0, kH 0), (1, kH 1), (5, kI i5_2), (31, kB ((l0.getD i5_2.toNat 0) != (l1.getD i5_2.toNat 0)))], [], [oz 3 l0, oz 3 l1]⟩ (aP g3 (aP g4 (aP g5 (aP g6 aN)))) ?_
     refine Vi (((l0.getD i5_2.toNat 0) != (l1.getD i5_2.toNat 0))) (fun g13 => ?_) (fun g13 => ?_)
     ·replace h := bif_t h g13
      refine W_seq ?_
      obtain ⟨g7, g8, g9, g10, h⟩ := gd4 h
      refine Vds hT fN 8 [] [(35, false), (39, false)] [] [] ⟨[(40, kB (decide ((l0.getD i5_2.toNat 0) < (l1.getD i5_2.toNat 0))))], [], []⟩ (aP g7 (aP g8 (aP g9 (aP g10 aN)))) ?_
      refine Vi ((decide ((l0.getD i5_2.toNat 0) < (l1.getD i5_2.toNat 0)))) (fun g11 => ?_) (fun g11 => ?_)
      ·replace h := bif_t h g11
       refine Vrs hT [] ⟨[(4, kI (-1))], [], []⟩ ?_
       refine Vc [] [] (rCmp_R (-1)) (W_ret ?_)
       exact ⟨.inl rfl, by cases h; rfl⟩
      ·replace h := bif_f h g11
       refine W_skip ?_
       refine Vrs hT [] ⟨[(4, kI 1)], [], []⟩ ?_
       refine Vc [] [] (rCmp_R 1) (W_ret ?_)
       exact ⟨.inl rfl, by cases h; rfl⟩
     ·replace h := bif_f h g13
      refine W_skip ?_
      obtain ⟨g12, h⟩ := gd_some h
      refine Vg hT fN [] [] [0, 1] (rCmp_l1_E l0 l1 (i5_2 - 1)) (aP g12 aN) ?_
      exact ⟨_, rfl, h⟩
    ·replace h := bif_f h g14
     refine Vc [] [] ⟨[], [], []⟩ (W_exit ?_)
     refine Vrs hT [] ⟨[(4, kI 0)], [], []⟩ ?_
     refine Vc [] [] (rCmp_R 0) (W_ret ?_)
     exact ⟨.inl rfl, by cases h; rfl⟩
 ·rintro e s' ⟨he, rfl⟩
  refine ⟨he, fun a' w' hr => ?_⟩
  exact retS_ok tabO_dd hr (rs := [.tmp 4]) rfl (objs := []) (by kernel_rfl)
def rSize_j1_E (i3_2 : Int) : S := ⟨[(3, kI i3_2)], [], []⟩
abbrev rSize_j1_P (n : Nat) (r : Int) : S → Prop := fun s => ∃ (i3_2 : Int), s = rSize_j1_E i3_2 ∧ rSize_j1 n i3_2 = some r
def rSize_R (r : Int) : S := ⟨[(2, kI r)], [], []⟩
def rSize_ct (n : Nat) (r : Int) : Ct := ctc aZ fun x0 l0 => ct0 fun H => ([rSize n l0 = some r], shA H.length (kI r), shH H.length [])
theorem rSize_ok (n : Nat) (r : Int) : FnOk Tryd.prog Tr 31 (rSize_ct n r) := by
 refine ⟨fun args H g av objs hF hg ρ w vals hG hp ha => ?_, _, Tryd.func31, by kernel_rfl, by kernel_rfl⟩
 obtain ⟨x0, _, l0, rfl, e0, hF⟩ := ctc_inv hF
 obtain ⟨rfl, rfl, rfl, rfl⟩ := ct0_inv hF
 dsimp only
 obtain ⟨v0, vals, rfl, k0, ha⟩ := F2.inv ha
 obtain rfl := F2.inv0 ha
 have h : rSize n l0 = some r := hg
 obtain ⟨p0, s0, o0⟩ := aZ_ok hp e0 (k0) 3
 have hR0 := rel0 (gv := (fun _ => undef)) (n := 21) (w := w) (args := [kH 0]) (H := [⟨.ro false, 3, 1, l0.length, .z l0⟩]) (gl := []) (hpL (ps := [p0]) (F2.cons o0 F2.nil)) (allRo_ok rfl) (F2.cons s0 F2.nil) GlR.nil (by simp)
 clear ha hp hg hF k0 e0
 refine calls_W Tryd.func31 rfl rfl hR0 (Q := fun e s => (e = .ret ∨ e = .normal) ∧ s = rSize_R r) ?_ ?_
 ·clear hR0
  unfold rSize at h
  have hT := tabO_dd
  refine Vrs hT [0] ⟨[(0, kH 0)], [], [oz 3 l0]⟩ ?_
  obtain ⟨g1, h⟩ := gd_some h
  refine Vgs hT fN [] [] [0] ⟨[(0, kH 0), (3, kI (2 * ((l0.length : Nat) : Int)))], [], [oz 3 l0]⟩ (aP g1 aN) ?_
  refine W_join (rSize_j1_P n r) ?_ ?_
  ·rintro _ ⟨i3_2, rfl, h⟩
   unfold rSize_j1 at h
   refine Vrs hT [] ⟨[(2, kI i3_2)], [], []⟩ ?_
   refine Vc [] [] (rSize_R i3_2) (W_ret ?_)
   exact ⟨.inl rfl, by cases h; rfl⟩
  ·refine W_seq ?_
   rcases Bool.eq_false_or_eq_true (decide ((0 : Int) < (2 * ((l0.length : Nat) : Int)))) with g2 | g2
   ·replace h := bif_t h g2
    obtain ⟨g3, g4, g5, h⟩ := gd3 h
    refine Vg hT fN [(2, true)] [] [] ⟨[(3, kI (2 * ((l0.length : Nat) : Int))), (17, kB (decide ((l0.getD ((((l0.length : Nat) : Int) - 1).toNat) 0) < (256 : Int))))], [], []⟩ (aP g2 (aP g3 (aP g4 (aP g5 aN)))) ?_
    refine Vi ((decide ((l0.getD ((((l0.length : Nat) : Int) - 1).toNat) 0) < (256 : Int)))) (fun g7 => ?_) (fun g7 => ?_)
    ·replace h := bif_t h g7
     obtain ⟨g6, h⟩ := gd_some h
     refine Vg hT fN [] [] [] (rSize_j1_E ((2 * ((l0.length : Nat) : Int)) - 1)) (aP g6 aN) ?_
     exact ⟨_, rfl, h⟩
    ·replace h := bif_f h g7
     refine Vc [] [] (rSize_j1_E (2 * ((l0.length : Nat) : Int))) (W_skip ?_)
     exact ⟨_, rfl, h⟩
   ·replace h := bif_f h g2
    refine Vg hT fN [(2, false)] [] [] ⟨[(3, kI (2 * ((l0.length : Nat) : Int))), (17, kB false)], [], []⟩ (aP g2 aN) ?_
    refine Vi (false) (fun hb => by cases hb) (fun _ => ?_)
    refine Vc [] [] (rSize_j1_E (2 * ((l0.length : Nat) : Int))) (W_skip ?_)
    exact ⟨_, rfl, h⟩
 ·rintro e s' ⟨he, rfl⟩
  refine ⟨he, fun a' w' hr => ?_⟩
  exact retS_ok tabO_dd hr (rs := [.tmp 2]) rfl (objs := []) (by kernel_rfl)
def rdigit_R (r : Int) : S := ⟨[(4, kI r)], [], []⟩
def rdigit_ct (n : Nat) (r : Int) : Ct := ctc aZ fun x0 l0 => ctc (fun _ => aI) fun x1 l1 => ct0 fun H => ([rdigit n l0 l1 = some r], shA H.length (kI r), shH H.length [])
theorem rdigit_ok (n : Nat) (r : Int) : FnOk Tryd.prog Tr 102 (rdigit_ct n r) := by
 refine ⟨fun args H g av objs hF hg ρ w vals hG hp ha => ?_, _, Tryd.func102, by kernel_rfl, by kernel_rfl⟩
 obtain ⟨x0, _, l0, rfl, e0, hF⟩ := ctc_inv hF
 obtain ⟨x1, _, l1, rfl, e1, hF⟩ := ctc_inv hF
 obtain ⟨rfl, rfl, rfl, rfl⟩ := ct0_inv hF
 dsimp only
 obtain ⟨v0, vals, rfl, k0, ha⟩ := F2.inv ha
 obtain ⟨v1, vals, rfl, k1, ha⟩ := F2.inv ha
 obtain rfl := F2.inv0 ha
 have h : rdigit n l0 l1 = some r := hg
 obtain ⟨p0, s0, o0⟩ := aZ_ok hp e0 (k0) 3
 have s1 := aI_ok e1 (k1)
 have hR0 := rel0 (gv := (fun _ => undef)) (n := 13) (w := w) (args := [kH 0, kI l1]) (H := [⟨.ro false, 3, 1, l0.length, .z l0⟩]) (gl := []) (hpL (ps := [p0]) (F2.cons o0 F2.nil)) (allRo_ok rfl) (F2.cons s0 (F2.cons s1 F2.nil)) GlR.nil (by simp)
 clear ha hp hg hF k0 k1 e0 e1
 refine calls_W Tryd.func102 rfl rfl hR0 (Q := fun e s => (e = .ret ∨ e = .normal) ∧ s = rdigit_R r) ?_ ?_
 ·clear hR0
  unfold rdigit at h
  have hT := tabO_dd
  refine Vrs hT [0] ⟨[(0, kH 0), (1, kI l1)], [], [oz 3 l0]⟩ ?_
  refine W_seq ?_
  refine Vrs hT [0] ⟨[(0, kH 0), (1, kI l1), (8, kB (decide (l1 < ((l0.length : Nat) : Int))))], [], [oz 3 l0]⟩ ?_
  refine Vi ((decide (l1 < ((l0.length : Nat) : Int)))) (fun g3 => ?_) (fun g3 => ?_)
  ·replace h := bif_t h g3
   obtain ⟨g1, g2, h⟩ := gd2 h
   refine Vgs hT fN [] [] [] ⟨[(4, kI (l0.getD l1.toNat 0))], [], []⟩ (aP g1 (aP g2 aN)) ?_
   refine Vc [] [] (rdigit_R (l0.getD l1.toNat 0)) (W_ret ?_)
   exact ⟨.inl rfl, by cases h; rfl⟩
  ·replace h := bif_f h g3
   refine Vc [] [] ⟨[], [], []⟩ (W_skip ?_)
   refine Vrs hT [] ⟨[(4, kI 0)], [], []⟩ ?_
   refine Vc [] [] (rdigit_R 0) (W_ret ?_)
   exact ⟨.inl rfl, by cases h; rfl⟩
 ·rintro e s' ⟨he, rfl⟩
  refine ⟨he, fun a' w' hr => ?_⟩
  exact retS_ok tabO_dd hr (rs := [.tmp 4]) rfl (objs := []) (by kernel_rfl)
def rfit_j1_E (i6_2 : Int) : S := ⟨[(6, kI i6_2)], [], []⟩
abbrev rfit_j1_P (n : Nat) (r : Int) : S → Prop := fun s => ∃ (i6_2 : Int), s = rfit_j1_E i6_2 ∧ rfit_j1 n i6_2 = some r
def rfit_R (r : Int) : S := ⟨[(4, kI r)], [], []⟩
def rfit_ct (n : Nat) (r : Int) : Ct := ctc aZ fun x0 l0 => ctc aZ fun x1 l1 => ct0 fun H => ([rfit n l0 l1 = some r], shA H.length (kI r), shH H.length [])
theorem rfit_ok (n : Nat) (r : Int) : FnOk Tryd.prog Tr 93 (rfit_ct n r) := by
 refine ⟨fun args H g av objs hF hg ρ w vals hG hp ha => ?_, _, Tryd.func93, by kernel_rfl, by kernel_rfl⟩
 obtain ⟨x0, _, l0, rfl, e0, hF⟩ := ctc_inv hF
 obtain ⟨x1, _, l1, rfl, e1, hF⟩ := ctc_inv hF
 obtain ⟨rfl, rfl, rfl, rfl⟩ := ct0_inv hF
 dsimp only
 obtain ⟨v0, vals, rfl, k0, ha⟩ := F2.inv ha
 obtain ⟨v1, vals, rfl, k1, ha⟩ := F2.inv ha
 obtain rfl := F2.inv0 ha
 have h : rfit n l0 l1 = some r := hg
 obtain ⟨p0, s0, o0⟩ := aZ_ok hp e0 (k0) 3
 obtain ⟨p1, s1, o1⟩ := aZ_ok hp e1 (k1) 3
 have hR0 := rel0 (gv := (fun _ => undef)) (n := 53) (w := w) (args := [kH 0, kH 1]) (H := [⟨.ro false, 3, 1, l0.length, .z l0⟩, ⟨.ro false, 3, 1, l1.length, .z l1⟩]) (gl := []) (hpL (ps := [p0, p1]) (F2.cons o0 (F2.cons o1 F2.nil))) (allRo_ok rfl) (F2.cons s0 (F2.cons s1 F2.nil)) GlR.nil (by simp)
 clear ha hp hg hF k0 k1 e0 e1
 refine calls_W Tryd.func93 rfl rfl hR0 (Q := fun e s => (e = .ret ∨ e = .normal) ∧ s = rfit_R r) ?_ ?_
 ·clear hR0
  unfold rfit at h
  have hT := tabO_dd
  refine Vrs hT [0, 1] ⟨[(0, kH 0), (1, kH 1)], [], [oz 3 l0, oz 3 l1]⟩ ?_
  refine Vrs hT [0, 1] ⟨[(0, kH 0), (1, kH 1), (5, kI ((l1.length : Nat) : Int))], [], [oz 3 l0, oz 3 l1]⟩ ?_
  refine Vrs hT [0, 1] ⟨[(0, kH 0), (1, kH 1), (5, kI ((l1.length : Nat) : Int))], [], [oz 3 l0, oz 3 l1]⟩ ?_
  refine W_join (rfit_j1_P n r) ?_ ?_
  ·rintro _ ⟨i6_2, rfl, h⟩
   unfold rfit_j1 at h
   refine W_seq ?_
   refine Vrs hT [] ⟨[(6, kI i6_2), (51, kB (i6_2 == 0))], [], []⟩ ?_
   refine Vi ((i6_2 == 0)) (fun g1 => ?_) (fun g1 => ?_)
   ·replace h := bif_t h g1
    refine Vrs hT [] ⟨[(4, kI 1)], [], []⟩ ?_
    refine Vc [] [] (rfit_R 1) (W_ret ?_)
    exact ⟨.inl rfl, by cases h; rfl⟩
   ·replace h := bif_f h g1
    refine W_skip ?_
    refine Vrs hT [] ⟨[(4, kI i6_2)], [], []⟩ ?_
    refine Vc [] [] (rfit_R i6_2) (W_ret ?_)
    exact ⟨.inl rfl, by cases h; rfl⟩
  ·refine W_seq ?_
   refine Vr hT [0, 1] ⟨[(0, kH 0), (1, kH 1), (5, kI ((l1.length : Nat) : Int)), (10, kB (((l1.length : Nat) : Int) == 1))], [], [oz 3 l0, oz 3 l1]⟩ ?_
   refine Vi ((((l1.length : Nat) : Int) == 1)) (fun g30 => ?_) (fun g30 => ?_)
   ·replace h := bif_t h g30
    obtain ⟨r12, g2, h⟩ := bind_some' h
    obtain ⟨g3, h⟩ := gd_some h
    obtain ⟨r15, g4, h⟩ := bind_some' h
    obtain ⟨g5, g6, g7, g8, g9, h⟩ := gd5 h
    refine Vd hT (fT 1 (rdigit_ok n r12) (fT 4 (rdigit_ok n r15) fN)) 9 [] [(16, false), (19, false)] [] [] (rfit_j1_E (Int.tdiv ((r12 * 65536) + r15) (l1.getD 0 0))) (aP g2 (aP g3 (aP g4 (aP g5 (aP g6 (aP g7 (aP g8 (aP g9 aN)))))))) ?_
    exact ⟨_, rfl, h⟩
   ·replace h := bif_f h g30
    obtain ⟨r23, g10, h⟩ := bind_some' h
    obtain ⟨g11, g12, h⟩ := gd2 h
    obtain ⟨r28, g13, h⟩ := bind_some' h
    obtain ⟨g14, g15, g16, h⟩ := gd3 h
    obtain ⟨r34, g17, h⟩ := bind_some' h
    obtain ⟨g18, g19, g20, g21, g22, h⟩ := gd5 h
    obtain ⟨g23, g24, g25, g26, g27, h⟩ := gd5 h
    obtain ⟨g28, g29, h⟩ := gd2 h
    refine Vd hT (fT 2 (rdigit_ok n r23) (fT 7 (rdigit_ok n r28) (fT 13 (rdigit_ok n r34) fN))) 28 [] [(35, false), (48, false)] [] [] (rfit_j1_E (Int.tdiv ((((r23 * 65536) + r28) * 65536) + r34) ((((l1.getD ((((l1.length : Nat) : Int) - 1).toNat) 0) * 65536) + (l1.getD ((((l1.length : Nat) : Int) - 2).toNat) 0)) + 1))) (aP g10 (aP g11 (aP g12 (aP g13 (aP g14 (aP g15 (aP g16 (aP g17 (aP g18 (aP g19 (aP g20 (aP g21 (aP g22 (aP g23 (aP g24 (aP g25 (aP g26 (aP g27 (aP g28 (aP g29 aN)))))))))))))))))))) ?_
    exact ⟨_, rfl, h⟩
 ·rintro e s' ⟨he, rfl⟩
  refine ⟨he, fun a' w' hr => ?_⟩
  exact retS_ok tabO_dd hr (rs := [.tmp 4]) rfl (objs := []) (by kernel_rfl)
def rMul_l2_E (a0 : List Int) (a1 : List Int) (i6_2 : Int) (z5_11 : List Int) (i7_8 : Int) (i8_8 : Int) : S := ⟨[(0, kH 0), (1, kH 1), (5, kH 2), (6, kI i6_2), (7, kI i7_8), (8, kI i8_8)], [], [oz 3 a0, oz 3 a1, ⟨.row, 3, 1, (((a0.length : Nat) : Int) + ((a1.length : Nat) : Int)).toNat, .z z5_11⟩]⟩
abbrev rMul_l2_P (n : Nat) (a0 : List Int) (a1 : List Int) (i6_2 : Int) (k_l1 : (List Int) → Int → Option (List Int × Nat)) (r : List Int × Nat) (fu : Nat) : S → Prop := fun s => ∃ (z5_11 : List Int), ∃ (i7_8 : Int), ∃ (i8_8 : Int), s = rMul_l2_E a0 a1 i6_2 z5_11 i7_8 i8_8 ∧ rMul_l2 n a0 a1 i6_2 k_l1 fu z5_11 i7_8 i8_8 = some r
def rMul_l1_E (a0 : List Int) (a1 : List Int) (z5_9 : List Int) (i6_2 : Int) : S := ⟨[(0, kH 0), (1, kH 1), (5, kH 2), (6, kI i6_2)], [], [oz 3 a0, oz 3 a1, ⟨.row, 3, 1, (((a0.length : Nat) : Int) + ((a1.length : Nat) : Int)).toNat, .z z5_9⟩]⟩
abbrev rMul_l1_P (n : Nat) (a0 : List Int) (a1 : List Int) (r : List Int × Nat) (fu : Nat) : S → Prop := fun s => ∃ (z5_9 : List Int), ∃ (i6_2 : Int), s = rMul_l1_E a0 a1 z5_9 i6_2 ∧ rMul_l1 n a0 a1 fu z5_9 i6_2 = some r
def rMul_R (r : List Int × Nat) : S := ⟨[(4, kH 0)], [], [⟨(.ro true), 3, 1, r.2, .z r.1⟩]⟩
def rMul_ct (n : Nat) (r : List Int × Nat) : Ct := ctc aZ fun x0 l0 => ctc aZ fun x1 l1 => ct0 fun H => ([rMul n l0 l1 = some r], shA H.length (kH 0), shH H.length [⟨(.ro true), 3, 1, r.2, .z r.1⟩])
theorem rMul_ok (n : Nat) (r : List Int × Nat) : FnOk Tryd.prog Tr 56 (rMul_ct n r) := by
 refine ⟨fun args H g av objs hF hg ρ w vals hG hp ha => ?_, _, Tryd.func56, by kernel_rfl, by kernel_rfl⟩
 obtain ⟨x0, _, l0, rfl, e0, hF⟩ := ctc_inv hF
 obtain ⟨x1, _, l1, rfl, e1, hF⟩ := ctc_inv hF
 obtain ⟨rfl, rfl, rfl, rfl⟩ := ct0_inv hF
 dsimp only
 obtain ⟨v0, vals, rfl, k0, ha⟩ := F2.inv ha
 obtain ⟨v1, vals, rfl, k1, ha⟩ := F2.inv ha
 obtain rfl := F2.inv0 ha
 have h : rMul n l0 l1 = some r := hg
 obtain ⟨p0, s0, o0⟩ := aZ_ok hp e0 (k0) 3
 obtain ⟨p1, s1, o1⟩ := aZ_ok hp e1 (k1) 3
 have hR0 := rel0 (gv := (fun _ => undef)) (n := 63) (w := w) (args := [kH 0, kH 1]) (H := [⟨.ro false, 3, 1, l0.length, .z l0⟩, ⟨.ro false, 3, 1, l1.length, .z l1⟩]) (gl := []) (hpL (ps := [p0, p1]) (F2.cons o0 (F2.cons o1 F2.nil))) (allRo_ok rfl) (F2.cons s0 (F2.cons s1 F2.nil)) GlR.nil (by simp)
 clear ha hp hg hF k0 k1 e0 e1
 refine calls_W Tryd.func56 rfl rfl hR0 (Q := fun e s => (e = .ret ∨ e = .normal) ∧ s = rMul_R r) ?_ ?_
 ·clear hR0
  unfold rMul at h
  have hT := tabO_dd
  refine Vrs hT [0, 1] ⟨[(0, kH 0), (1, kH 1)], [], [oz 3 l0, oz 3 l1]⟩ ?_
  obtain ⟨g1, g2, g3, g4, h⟩ := gd4 h
  refine Vgs hT fN [] [] [0, 1, 2] ⟨[(0, kH 0), (1, kH 1), (5, kH 2)], [], [oz 3 l0, oz 3 l1, ⟨.row, 3, 1, (((l0.length : Nat) : Int) + ((l1.length : Nat) : Int)).toNat, .z (List.replicate ((((l0.length : Nat) : Int) + ((l1.length : Nat) : Int)).toNat) 0)⟩]⟩ (aP g1 (aP g2 (aP g3 (aP g4 aN)))) ?_
  refine W_seq ?_
  refine Vrs hT [0, 1, 2] ⟨[(0, kH 0), (1, kH 1), (5, kH 2), (6, kI 0)], [], [oz 3 l0, oz 3 l1, ⟨.row, 3, 1, (((l0.length : Nat) : Int) + ((l1.length : Nat) : Int)).toNat, .z (List.replicate ((((l0.length : Nat) : Int) + ((l1.length : Nat) : Int)).toNat) 0)⟩]⟩ ?_
  refine W_block ?_
  refine Vc [] [0, 1, 2] (rMul_l1_E l0 l1 (List.replicate ((((l0.length : Nat) : Int) + ((l1.length : Nat) : Int)).toNat) 0) 0) (W_lp ((rMul_l1_P n l0 l1 r)) n ⟨_, _, rfl, h⟩ ?_)
  rintro fu_l1 _ ⟨z5_9, i6_2, rfl, h⟩
  cases fu_l1 with
  | zero => cases h
  | succ fu_l1 =>
   refine ⟨fu_l1, rfl, ?_⟩
   rw [rMul_l1] at h
   refine W_seq ?_
   refine Vrs hT [0, 1, 2] ⟨[(0, kH 0), (1, kH 1), (5, kH 2), (6, kI i6_2), (18, kB (decide (i6_2 < ((l0.length : Nat) : Int))))], [], [oz 3 l0, oz 3 l1, ⟨.row, 3, 1, (((l0.length : Nat) : Int) + ((l1.length : Nat) : Int)).toNat, .z z5_9⟩]⟩ ?_
   refine Vi ((decide (i6_2 < ((l0.length : Nat) : Int)))) (fun g28 => ?_) (fun g28 => ?_)
   ·replace h := bif_t h g28
    refine W_skip ?_
    refine W_seq ?_
    refine W_block ?_
    refine Vrs hT [0, 1, 2] ⟨[(0, kH 0), (1, kH 1), (5, kH 2), (6, kI i6_2), (7, kI 0)], [], [oz 3 l0, oz 3 l1, ⟨.row, 3, 1, (((l0.length : Nat) : Int) + ((l1.length : Nat) : Int)).toNat, .z z5_9⟩]⟩ ?_
    refine W_seq ?_
    refine Vrs hT [0, 1, 2] ⟨[(0, kH 0), (1, kH 1), (5, kH 2), (6, kI i6_2), (7, kI 0), (8, kI 0)], [], [oz 3 l0, oz 3 l1, ⟨.row, 3, 1, (((l0.length : Nat) : Int) + ((l1.length : Nat) : Int)).toNat, .z z5_9⟩]⟩ ?_
    refine W_block ?_
    refine Vc [] [0, 1, 2] (rMul_l2_E l0 l1 i6_2 z5_9 0 0) (W_lp ((rMul_l2_P n l0 l1 i6_2 (rMul_l1 n l0 l1 fu_l1) r)) n ⟨_, _, _, rfl, h⟩ ?_)
    rintro fu_l2 _ ⟨z5_11, i7_8, i8_8, rfl, h⟩
    cases fu_l2 with
    | zero => cases h
    | succ fu_l2 =>
     refine ⟨fu_l2, rfl, ?_⟩
     rw [rMul_l2] at h
     refine W_seq ?_
     refine Vrs hT [0, 1, 2] ⟨[(0, kH 0), (1, kH 1), (5, kH 2), (6, kI i6_2), (7, kI i7_8), (8, kI i8_8), (24, kB (decide (i8_8 < ((l1.length : Nat) : Int))))], [], [oz 3 l0, oz 3 l1, ⟨.row, 3, 1, (((l0.length : Nat) : Int) + ((l1.length : Nat) : Int)).toNat, .z z5_11⟩]⟩ ?_
     refine Vi ((decide (i8_8 < ((l1.length : Nat) : Int)))) (fun g26 => ?_) (fun g26 => ?_)
     ·replace h := bif_t h g26
      refine W_skip ?_
      refine W_seq ?_
      refine W_block ?_
      obtain ⟨g5, g6, g7, g8, g9, h⟩ := gd5 h
      obtain ⟨g10, g11, g12, g13, g14, h⟩ := gd5 h
      refine Vds hT fN 17 [] [(0, false), (1, false), (5, false), (6, false), (7, false), (8, false), (37, false), (43, false)] [] [0, 1, 2] ⟨[(0, kH 0), (1, kH 1), (5, kH 2), (6, kI i6_2), (7, kI ((i7_8 + ((l0.getD i6_2.toNat 0) * (l1.getD i8_8.toNat 0))) + (z5_11.getD ((i6_2 + i8_8).toNat) 0))), (8, kI i8_8)], [], [oz 3 l0, oz 3 l1, ⟨.row, 3, 1, (((l0.length : Nat) : Int) + ((l1.length : Nat) : Int)).toNat, .z z5_11⟩]⟩ (aP g5 (aP g6 (aP g7 (aP g8 (aP g9 (aP g10 (aP g11 (aP g12 (aP g13 (aP g14 aN)))))))))) ?_
      obtain ⟨g15, g16, g17, g18, h⟩ := gd4 h
      refine Vgs hT fN [] [] [0, 1, 2] ⟨[(0, kH 0), (1, kH 1), (5, kH 2), (6, kI i6_2), (7, kI ((i7_8 + ((l0.getD i6_2.toNat 0) * (l1.getD i8_8.toNat 0))) + (z5_11.getD ((i6_2 + i8_8).toNat) 0))), (8, kI i8_8)], [], [oz 3 l0, oz 3 l1, ⟨.row, 3, 1, (((l0.length : Nat) : Int) + ((l1.length : Nat) : Int)).toNat, .z (z5_11.set ((i6_2 + i8_8).toNat) (Int.tmod ((i7_8 + ((l0.getD i6_2.toNat 0) * (l1.getD i8_8.toNat 0))) + (z5_11.getD ((i6_2 + i8_8).toNat) 0)) 65536))⟩]⟩ (aP g15 (aP g16 (aP g17 (aP g18 aN)))) ?_
      obtain ⟨g19, g20, h⟩ := gd2 h
      refine Vg hT fN [] [] [0, 1, 2] ⟨[(0, kH 0), (1, kH 1), (5, kH 2), (6, kI i6_2), (7, kI (Int.tdiv ((i7_8 + ((l0.getD i6_2.toNat 0) * (l1.getD i8_8.toNat 0))) + (z5_11.getD ((i6_2 + i8_8).toNat) 0)) 65536)), (8, kI i8_8)], [], [oz 3 l0, oz 3 l1, ⟨.row, 3, 1, (((l0.length : Nat) : Int) + ((l1.length : Nat) : Int)).toNat, .z (z5_11.set ((i6_2 + i8_8).toNat) (Int.tmod ((i7_8 + ((l0.getD i6_2.toNat 0) * (l1.getD i8_8.toNat 0))) + (z5_11.getD ((i6_2 + i8_8).toNat) 0)) 65536))⟩]⟩ (aP g19 (aP g20 aN)) ?_
      obtain ⟨g21, h⟩ := gd_some h
      refine Vg hT fN [] [] [0, 1, 2] (rMul_l2_E l0 l1 i6_2 (z5_11.set ((i6_2 + i8_8).toNat) (Int.tmod ((i7_8 + ((l0.getD i6_2.toNat 0) * (l1.getD i8_8.toNat 0))) + (z5_11.getD ((i6_2 + i8_8).toNat) 0)) 65536)) (Int.tdiv ((i7_8 + ((l0.getD i6_2.toNat 0) * (l1.getD i8_8.toNat 0))) + (z5_11.getD ((i6_2 + i8_8).toNat) 0)) 65536) (i8_8 + 1)) (aP g21 aN) ?_
      exact ⟨_, _, _, rfl, h⟩
     ·replace h := bif_f h g26
      refine Vc [] [0, 1, 2] ⟨[(0, kH 0), (1, kH 1), (5, kH 2), (6, kI i6_2), (7, kI i7_8)], [], [oz 3 l0, oz 3 l1, ⟨.row, 3, 1, (((l0.length : Nat) : Int) + ((l1.length : Nat) : Int)).toNat, .z z5_11⟩]⟩ (W_exit ?_)
      obtain ⟨g22, g23, g24, h⟩ := gd3 h
      refine Vg hT fN [] [] [0, 1, 2] ⟨[(0, kH 0), (1, kH 1), (5, kH 2), (6, kI i6_2)], [], [oz 3 l0, oz 3 l1, ⟨.row, 3, 1, (((l0.length : Nat) : Int) + ((l1.length : Nat) : Int)).toNat, .z (z5_11.set ((i6_2 + ((l1.length : Nat) : Int)).toNat) i7_8)⟩]⟩ (aP g22 (aP g23 (aP g24 aN))) ?_
      obtain ⟨g25, h⟩ := gd_some h
      refine Vg hT fN [] [] [0, 1, 2] (rMul_l1_E l0 l1 (z5_11.set ((i6_2 + ((l1.length : Nat) : Int)).toNat) i7_8) (i6_2 + 1)) (aP g25 aN) ?_
      exact ⟨_, _, rfl, h⟩
   ·replace h := bif_f h g28
    refine Vc [] [2] ⟨[(5, kH 0)], [], [⟨.row, 3, 1, (((l0.length : Nat) : Int) + ((l1.length : Nat) : Int)).toNat, .z z5_9⟩]⟩ (W_exit ?_)
    obtain ⟨r62_2, g27, h⟩ := bind_some' h
    refine Vgs hT (fT 1 (rtrim_ok n r62_2) fN) [] [] [0] ⟨[(4, .c (.sl 0 0 r62_2.2))], [], [⟨.row, 3, 1, (((l0.length : Nat) : Int) + ((l1.length : Nat) : Int)).toNat, .z z5_9⟩]⟩ (aP g27 aN) ?_
    refine Vc [.vw 4 true] [1] (rMul_R (((z5_9.drop 0).take r62_2.2), r62_2.2)) (W_ret ?_)
    exact ⟨.inl rfl, by cases h; rfl⟩
 ·rintro e s' ⟨he, rfl⟩
  refine ⟨he, fun a' w' hr => ?_⟩
  exact retS_ok tabO_dd hr (rs := [.tmp 4]) rfl (objs := [0]) (by kernel_rfl)
def rSub_j1_E (a0 : List Int) (a1 : List Int) (z5_2 : List Int) (i7_2 : Int) (i6_11 : Int) (i8_8 : Int) : S := ⟨[(0, kH 0), (1, kH 1), (5, kH 2), (6, kI i6_11), (7, kI i7_2), (8, kI i8_8)], [], [oz 3 a0, oz 3 a1, nz 3 z5_2]⟩
abbrev rSub_j1_P (n : Nat) (a0 : List Int) (a1 : List Int) (z5_2 : List Int) (i7_2 : Int) (k_l1 : (List Int) → Int → Int → Option (List Int × Nat)) (r : List Int × Nat) : S → Prop := fun s => ∃ (i6_11 : Int), ∃ (i8_8 : Int), s = rSub_j1_E a0 a1 z5_2 i7_2 i6_11 i8_8 ∧ rSub_j1 n a0 a1 z5_2 i7_2 k_l1 i6_11 i8_8 = some r
def rSub_l1_E (a0 : List Int) (a1 : List Int) (z5_2 : List Int) (i6_9 : Int) (i7_2 : Int) : S := ⟨[(0, kH 0), (1, kH 1), (5, kH 2), (6, kI i6_9), (7, kI i7_2)], [], [oz 3 a0, oz 3 a1, nz 3 z5_2]⟩
abbrev rSub_l1_P (n : Nat) (a0 : List Int) (a1 : List Int) (r : List Int × Nat) (fu : Nat) : S → Prop := fun s => ∃ (z5_2 : List Int), ∃ (i6_9 : Int), ∃ (i7_2 : Int), s = rSub_l1_E a0 a1 z5_2 i6_9 i7_2 ∧ rSub_l1 n a0 a1 fu z5_2 i6_9 i7_2 = some r
def rSub_R (r : List Int × Nat) : S := ⟨[(4, kH 0)], [], [⟨(.ro true), 3, 1, r.2, .z r.1⟩]⟩
def rSub_ct (n : Nat) (r : List Int × Nat) : Ct := ctc aZ fun x0 l0 => ctc aZ fun x1 l1 => ct0 fun H => ([rSub n l0 l1 = some r], shA H.length (kH 0), shH H.length [⟨(.ro true), 3, 1, r.2, .z r.1⟩])
theorem rSub_ok (n : Nat) (r : List Int × Nat) : FnOk Tryd.prog Tr 94 (rSub_ct n r) := by
 refine ⟨fun args H g av objs hF hg ρ w vals hG hp ha => ?_, _, Tryd.func94, by kernel_rfl, by kernel_rfl⟩
 obtain ⟨x0, _, l0, rfl, e0, hF⟩ := ctc_inv hF
 obtain ⟨x1, _, l1, rfl, e1, hF⟩ := ctc_inv hF
 obtain ⟨rfl, rfl, rfl, rfl⟩ := ct0_inv hF
 dsimp only
 obtain ⟨v0, vals, rfl, k0, ha⟩ := F2.inv ha
 obtain ⟨v1, vals, rfl, k1, ha⟩ := F2.inv ha
 obtain rfl := F2.inv0 ha
 have h : rSub n l0 l1 = some r := hg
 obtain ⟨p0, s0, o0⟩ := aZ_ok hp e0 (k0) 3
 obtain ⟨p1, s1, o1⟩ := aZ_ok hp e1 (k1) 3
 have hR0 := rel0 (gv := (fun _ => undef)) (n := 35) (w := w) (args := [kH 0, kH 1]) (H := [⟨.ro false, 3, 1, l0.length, .z l0⟩, ⟨.ro false, 3, 1, l1.length, .z l1⟩]) (gl := []) (hpL (ps := [p0, p1]) (F2.cons o0 (F2.cons o1 F2.nil))) (allRo_ok rfl) (F2.cons s0 (F2.cons s1 F2.nil)) GlR.nil (by simp)
 clear ha hp hg hF k0 k1 e0 e1
 refine calls_W Tryd.func94 rfl rfl hR0 (Q := fun e s => (e = .ret ∨ e = .normal) ∧ s = rSub_R r) ?_ ?_
 ·clear hR0
  unfold rSub at h
  have hT := tabO_dd
  refine Vrs hT [0, 1] ⟨[(0, kH 0), (1, kH 1)], [], [oz 3 l0, oz 3 l1]⟩ ?_
  refine Vrs hT [0, 1] ⟨[(0, kH 0), (1, kH 1), (5, .c (.nils))], [], [oz 3 l0, oz 3 l1]⟩ ?_
  refine Vrs hT [0, 1] ⟨[(0, kH 0), (1, kH 1), (5, .c (.nils)), (6, kI 0)], [], [oz 3 l0, oz 3 l1]⟩ ?_
  refine W_seq ?_
  refine Vrs hT [0, 1] ⟨[(0, kH 0), (1, kH 1), (5, .c (.nils)), (6, kI 0), (7, kI 0)], [], [oz 3 l0, oz 3 l1]⟩ ?_
  refine W_block ?_
  refine Vc [.nil 5 3 1 (.z [])] [0, 1, 2] (rSub_l1_E l0 l1 [] 0 0) (W_lp ((rSub_l1_P n l0 l1 r)) n ⟨_, _, _, rfl, h⟩ ?_)
  rintro fu_l1 _ ⟨z5_2, i6_9, i7_2, rfl, h⟩
  cases fu_l1 with
  | zero => cases h
  | succ fu_l1 =>
   refine ⟨fu_l1, rfl, ?_⟩
   rw [rSub_l1] at h
   refine W_seq ?_
   refine Vrs hT [0, 1, 2] ⟨[(0, kH 0), (1, kH 1), (5, kH 2), (6, kI i6_9), (7, kI i7_2), (12, kB (decide (i7_2 < ((l0.length : Nat) : Int))))], [], [oz 3 l0, oz 3 l1, nz 3 z5_2]⟩ ?_
   refine Vi ((decide (i7_2 < ((l0.length : Nat) : Int)))) (fun g11 => ?_) (fun g11 => ?_)
   ·replace h := bif_t h g11
    refine W_skip ?_
    refine W_seq ?_
    refine W_block ?_
    obtain ⟨g1, g2, h⟩ := gd2 h
    obtain ⟨r21_3, g3, h⟩ := bind_some' h
    obtain ⟨g4, g5, h⟩ := gd2 h
    refine Vds hT (fT 6 (rdigit_ok n r21_3) fN) 9 [] [(0, false), (1, false), (5, false), (7, false), (22, false), (23, false)] [] [0, 1, 2] ⟨[(0, kH 0), (1, kH 1), (5, kH 2), (7, kI i7_2), (8, kI (((l0.getD i7_2.toNat 0) - r21_3) - i6_9))], [], [oz 3 l0, oz 3 l1, nz 3 z5_2]⟩ (aP g1 (aP g2 (aP g3 (aP g4 (aP g5 aN))))) ?_
    refine Vrs hT [0, 1, 2] ⟨[(0, kH 0), (1, kH 1), (5, kH 2), (6, kI 0), (7, kI i7_2), (8, kI (((l0.getD i7_2.toNat 0) - r21_3) - i6_9))], [], [oz 3 l0, oz 3 l1, nz 3 z5_2]⟩ ?_
    refine W_join (rSub_j1_P n l0 l1 z5_2 i7_2 (rSub_l1 n l0 l1 fu_l1) r) ?_ ?_
    ·rintro _ ⟨i6_11, i8_8, rfl, h⟩
     unfold rSub_j1 at h
     obtain ⟨g6, h⟩ := gd_some h
     refine Vg hT fN [] [] [0, 1, 4] ⟨[(0, kH 0), (1, kH 1), (5, kH 2), (6, kI i6_11), (7, kI i7_2)], [], [oz 3 l0, oz 3 l1, nz 3 (z5_2 ++ [i8_8])]⟩ (aP g6 aN) ?_
     obtain ⟨g7, h⟩ := gd_some h
     refine Vg hT fN [] [] [0, 1, 2] (rSub_l1_E l0 l1 (z5_2 ++ [i8_8]) i6_11 (i7_2 + 1)) (aP g7 aN) ?_
     exact ⟨_, _, _, rfl, h⟩
    ·refine W_seq ?_
     refine Vr hT [0, 1, 2] ⟨[(0, kH 0), (1, kH 1), (5, kH 2), (6, kI 0), (7, kI i7_2), (8, kI (((l0.getD i7_2.toNat 0) - r21_3) - i6_9)), (26, kB (decide ((((l0.getD i7_2.toNat 0) - r21_3) - i6_9) < (0 : Int))))], [], [oz 3 l0, oz 3 l1, nz 3 z5_2]⟩ ?_
     refine Vi ((decide ((((l0.getD i7_2.toNat 0) - r21_3) - i6_9) < (0 : Int)))) (fun g9 => ?_) (fun g9 => ?_)
     ·replace h := bif_t h g9
      obtain ⟨g8, h⟩ := gd_some h
      refine Vgs hT fN [] [] [0, 1, 2] ⟨[(0, kH 0), (1, kH 1), (5, kH 2), (7, kI i7_2), (8, kI ((((l0.getD i7_2.toNat 0) - r21_3) - i6_9) + 65536))], [], [oz 3 l0, oz 3 l1, nz 3 z5_2]⟩ (aP g8 aN) ?_
      refine Vr hT [0, 1, 2] (rSub_j1_E l0 l1 z5_2 i7_2 1 ((((l0.getD i7_2.toNat 0) - r21_3) - i6_9) + 65536)) ?_
      exact ⟨_, _, rfl, h⟩
     ·replace h := bif_f h g9
      refine Vc [] [0, 1, 2] (rSub_j1_E l0 l1 z5_2 i7_2 0 (((l0.getD i7_2.toNat 0) - r21_3) - i6_9)) (W_skip ?_)
      exact ⟨_, _, rfl, h⟩
   ·replace h := bif_f h g11
    refine Vc [] [2] ⟨[(5, kH 0)], [], [nz 3 z5_2]⟩ (W_exit ?_)
    obtain ⟨r34_2, g10, h⟩ := bind_some' h
    refine Vgs hT (fT 1 (rtrim_ok n r34_2) fN) [] [] [0] ⟨[(4, .c (.sl 0 0 r34_2.2))], [], [nz 3 z5_2]⟩ (aP g10 aN) ?_
    refine Vc [.vw 4 true] [1] (rSub_R (((z5_2.drop 0).take r34_2.2), r34_2.2)) (W_ret ?_)
    exact ⟨.inl rfl, by cases h; rfl⟩
 ·rintro e s' ⟨he, rfl⟩
  refine ⟨he, fun a' w' hr => ?_⟩
  exact retS_ok tabO_dd hr (rs := [.tmp 4]) rfl (objs := [0]) (by kernel_rfl)
def rDiv_l2_E (a0 : List Int) (a1 : List Int) (i8_1 : Int) (z6_7 : List Int) (z7_7 : List Int) (m7_7 : Nat) : S := ⟨[(0, kH 0), (1, kH 1), (6, kH 2), (7, kH 3), (8, kI i8_1)], [], [oz 3 a0, oz 3 a1, ⟨.row, 3, 1, ((a0.length : Nat) : Int).toNat, .z z6_7⟩, ⟨(.ro true), 3, 1, m7_7, .z z7_7⟩]⟩
abbrev rDiv_l2_P (n : Nat) (a0 : List Int) (a1 : List Int) (i8_1 : Int) (k_l1 : (List Int) → (List Int) → Nat → Int → Option (List Int × Nat × List Int × Nat)) (r : List Int × Nat × List Int × Nat) (fu : Nat) : S → Prop := fun s => ∃ (z6_7 : List Int), ∃ (z7_7 : List Int), ∃ (m7_7 : Nat), s = rDiv_l2_E a0 a1 i8_1 z6_7 z7_7 m7_7 ∧ rDiv_l2 n a0 a1 i8_1 k_l1 fu z6_7 z7_7 m7_7 = some r
def rDiv_l1_E (a0 : List Int) (a1 : List Int) (z6_5 : List Int) (z7_5 : List Int) (m7_5 : Nat) (i8_1 : Int) : S := ⟨[(0, kH 0), (1, kH 1), (6, kH 2), (7, kH 3), (8, kI i8_1)], [], [oz 3 a0, oz 3 a1, ⟨.row, 3, 1, ((a0.length : Nat) : Int).toNat, .z z6_5⟩, ⟨(.ro true), 3, 1, m7_5, .z z7_5⟩]⟩
abbrev rDiv_l1_P (n : Nat) (a0 : List Int) (a1 : List Int) (r : List Int × Nat × List Int × Nat) (fu : Nat) : S → Prop := fun s => ∃ (z6_5 : List Int), ∃ (z7_5 : List Int), ∃ (m7_5 : Nat), ∃ (i8_1 : Int), s = rDiv_l1_E a0 a1 z6_5 z7_5 m7_5 i8_1 ∧ rDiv_l1 n a0 a1 fu z6_5 z7_5 m7_5 i8_1 = some r
def rDiv_R (r : List Int × Nat × List Int × Nat) : S := ⟨[(4, kH 0), (5, kH 1)], [], [⟨(.ro true), 3, 1, r.2.1, .z r.1⟩, ⟨(.ro true), 3, 1, r.2.2.2, .z r.2.2.1⟩]⟩
def rDiv_ct (n : Nat) (r : List Int × Nat × List Int × Nat) : Ct := ctc aZ fun x0 l0 => ctc aZ fun x1 l1 => ct0 fun H => ([rDiv n l0 l1 = some r], shA H.length (.t [.c (.wh 0), .c (.wh 1)]), shH H.length [⟨(.ro true), 3, 1, r.2.1, .z r.1⟩, ⟨(.ro true), 3, 1, r.2.2.2, .z r.2.2.1⟩])
theorem rDiv_ok (n : Nat) (r : List Int × Nat × List Int × Nat) : FnOk Tryd.prog Tr 78 (rDiv_ct n r) := by
 refine ⟨fun args H g av objs hF hg ρ w vals hG hp ha => ?_, _, Tryd.func78, by kernel_rfl, by kernel_rfl⟩
 obtain ⟨x0, _, l0, rfl, e0, hF⟩ := ctc_inv hF
 obtain ⟨x1, _, l1, rfl, e1, hF⟩ := ctc_inv hF
 obtain ⟨rfl, rfl, rfl, rfl⟩ := ct0_inv hF
 dsimp only
 obtain ⟨v0, vals, rfl, k0, ha⟩ := F2.inv ha
 obtain ⟨v1, vals, rfl, k1, ha⟩ := F2.inv ha
 obtain rfl := F2.inv0 ha
 have h : rDiv n l0 l1 = some r := hg
 obtain ⟨p0, s0, o0⟩ := aZ_ok hp e0 (k0) 3
 obtain ⟨p1, s1, o1⟩ := aZ_ok hp e1 (k1) 3
 have hR0 := rel0 (gv := (fun _ => undef)) (n := 53) (w := w) (args := [kH 0, kH 1]) (H := [⟨.ro false, 3, 1, l0.length, .z l0⟩, ⟨.ro false, 3, 1, l1.length, .z l1⟩]) (gl := []) (hpL (ps := [p0, p1]) (F2.cons o0 (F2.cons o1 F2.nil))) (allRo_ok rfl) (F2.cons s0 (F2.cons s1 F2.nil)) GlR.nil (by simp)
 clear ha hp hg hF k0 k1 e0 e1
 refine calls_W Tryd.func78 rfl rfl hR0 (Q := fun e s => (e = .ret ∨ e = .normal) ∧ s = rDiv_R r) ?_ ?_
 ·clear hR0
  unfold rDiv at h
  have hT := tabO_dd
  refine Vrs hT [0, 1] ⟨[(0, kH 0), (1, kH 1)], [], [oz 3 l0, oz 3 l1]⟩ ?_
  obtain ⟨g1, g2, g3, h⟩ := gd3 h
  refine Vgs hT fN [] [] [0, 1, 2] ⟨[(0, kH 0), (1, kH 1), (6, kH 2)], [], [oz 3 l0, oz 3 l1, ⟨.row, 3, 1, ((l0.length : Nat) : Int).toNat, .z (List.replicate (((l0.length : Nat) : Int).toNat) 0)⟩]⟩ (aP g1 (aP g2 (aP g3 aN))) ?_
  refine Vrs hT [0, 1, 2] ⟨[(0, kH 0), (1, kH 1), (6, kH 2), (7, .c (.nils))], [], [oz 3 l0, oz 3 l1, ⟨.row, 3, 1, ((l0.length : Nat) : Int).toNat, .z (List.replicate (((l0.length : Nat) : Int).toNat) 0)⟩]⟩ ?_
  refine W_seq ?_
  obtain ⟨g4, h⟩ := gd_some h
  refine Vgs hT fN [] [] [0, 1, 2] ⟨[(0, kH 0), (1, kH 1), (6, kH 2), (7, .c (.nils)), (8, kI (((l0.length : Nat) : Int) - 1))], [], [oz 3 l0, oz 3 l1, ⟨.row, 3, 1, ((l0.length : Nat) : Int).toNat, .z (List.replicate (((l0.length : Nat) : Int).toNat) 0)⟩]⟩ (aP g4 aN) ?_
  refine W_block ?_
  refine Vc [.emp 7 3 1 (.z []) true] [0, 1, 2, 3] (rDiv_l1_E l0 l1 (List.replicate (((l0.length : Nat) : Int).toNat) 0) [] 0 (((l0.length : Nat) : Int) - 1)) (W_lp ((rDiv_l1_P n l0 l1 r)) n ⟨_, _, _, _, rfl, h⟩ ?_)
  rintro fu_l1 _ ⟨z6_5, z7_5, m7_5, i8_1, rfl, h⟩
  cases fu_l1 with
  | zero => cases h
  | succ fu_l1 =>
   refine ⟨fu_l1, rfl, ?_⟩
   rw [rDiv_l1] at h
   refine W_seq ?_
   refine Vrs hT [0, 1, 2, 3] ⟨[(0, kH 0), (1, kH 1), (6, kH 2), (7, kH 3), (8, kI i8_1), (17, kB (decide ((0 : Int) ≤ i8_1)))], [], [oz 3 l0, oz 3 l1, ⟨.row, 3, 1, ((l0.length : Nat) : Int).toNat, .z z6_5⟩, ⟨(.ro true), 3, 1, m7_5, .z z7_5⟩]⟩ ?_
   refine Vi ((decide ((0 : Int) ≤ i8_1))) (fun g21 => ?_) (fun g21 => ?_)
   ·replace h := bif_t h g21
    refine W_skip ?_
    refine W_seq ?_
    refine W_block ?_
    obtain ⟨g5, g6, g7, h⟩ := gd3 h
    obtain ⟨r27_2, g8, h⟩ := bind_some' h
    refine Vgs hT (fT 7 (rtrim_ok n r27_2) fN) [] [] [0, 1, 2, 5] ⟨[(0, kH 0), (1, kH 1), (6, kH 2), (7, .c (.sl 3 0 r27_2.2)), (8, kI i8_1)], [], [oz 3 l0, oz 3 l1, ⟨.row, 3, 1, ((l0.length : Nat) : Int).toNat, .z z6_5⟩, nz 3 ([(l0.getD i8_1.toNat 0)] ++ z7_5)]⟩ (aP g5 (aP g6 (aP g7 (aP g8 aN)))) ?_
    refine W_block ?_
    refine Vc [.vw 7 true] [0, 1, 2, 4] (rDiv_l2_E l0 l1 i8_1 z6_5 ((([(l0.getD i8_1.toNat 0)] ++ z7_5).drop 0).take r27_2.2) r27_2.2) (W_lp ((rDiv_l2_P n l0 l1 i8_1 (rDiv_l1 n l0 l1 fu_l1) r)) n ⟨_, _, _, rfl, h⟩ ?_)
    rintro fu_l2 _ ⟨z6_7, z7_7, m7_7, rfl, h⟩
    cases fu_l2 with
    | zero => cases h
    | succ fu_l2 =>
     refine ⟨fu_l2, rfl, ?_⟩
     rw [rDiv_l2] at h
     refine W_seq ?_
     obtain ⟨r30_8, g9, h⟩ := bind_some' h
     refine Vgs hT (fT 2 (rCmp_ok n r30_8) fN) [] [] [0, 1, 2, 3] ⟨[(0, kH 0), (1, kH 1), (6, kH 2), (7, kH 3), (8, kI i8_1), (31, kB (decide ((0 : Int) ≤ r30_8)))], [], [oz 3 l0, oz 3 l1, ⟨.row, 3, 1, ((l0.length : Nat) : Int).toNat, .z z6_7⟩, ⟨(.ro true), 3, 1, m7_7, .z z7_7⟩]⟩ (aP g9 aN) ?_
     refine Vi ((decide ((0 : Int) ≤ r30_8))) (fun g19 => ?_) (fun g19 => ?_)
     ·replace h := bif_t h g19
      refine W_skip ?_
      refine W_block ?_
      obtain ⟨r34_8, g10, h⟩ := bind_some' h
      refine Vgs hT (fT 2 (rfit_ok n r34_8) fN) [] [] [0, 1, 2, 3] ⟨[(0, kH 0), (1, kH 1), (6, kH 2), (7, kH 3), (8, kI i8_1), (9, kI r34_8)], [], [oz 3 l0, oz 3 l1, ⟨.row, 3, 1, ((l0.length : Nat) : Int).toNat, .z z6_7⟩, ⟨(.ro true), 3, 1, m7_7, .z z7_7⟩]⟩ (aP g10 aN) ?_
      obtain ⟨g11, g12, g13, g14, g15, h⟩ := gd5 h
      refine Vgs hT fN [] [] [0, 1, 2, 3] ⟨[(0, kH 0), (1, kH 1), (6, kH 2), (7, kH 3), (8, kI i8_1), (9, kI r34_8)], [], [oz 3 l0, oz 3 l1, ⟨.row, 3, 1, ((l0.length : Nat) : Int).toNat, .z (z6_7.set i8_1.toNat ((z6_7.getD i8_1.toNat 0) + r34_8))⟩, ⟨(.ro true), 3, 1, m7_7, .z z7_7⟩]⟩ (aP g11 (aP g12 (aP g13 (aP g14 (aP g15 aN))))) ?_
      obtain ⟨r48_8, g16, h⟩ := bind_some' h
      obtain ⟨r49_8, g17, h⟩ := bind_some' h
      refine Vg hT (fT 4 (rMul_ok n r48_8) (fT 5 (rSub_ok n r49_8) fN)) [] [] [0, 1, 2, 6] (rDiv_l2_E l0 l1 i8_1 (z6_7.set i8_1.toNat ((z6_7.getD i8_1.toNat 0) + r34_8)) r49_8.1 r49_8.2) (aP g16 (aP g17 aN)) ?_
      exact ⟨_, _, _, rfl, h⟩
     ·replace h := bif_f h g19
      refine Vc [] [0, 1, 2, 3] ⟨[(0, kH 0), (1, kH 1), (6, kH 2), (7, kH 3), (8, kI i8_1)], [], [oz 3 l0, oz 3 l1, ⟨.row, 3, 1, ((l0.length : Nat) : Int).toNat, .z z6_7⟩, ⟨(.ro true), 3, 1, m7_7, .z z7_7⟩]⟩ (W_exit ?_)
      obtain ⟨g18, h⟩ := gd_some h
      refine Vg hT fN [] [] [0, 1, 2, 3] (rDiv_l1_E l0 l1 z6_7 z7_7 m7_7 (i8_1 - 1)) (aP g18 aN) ?_
      exact ⟨_, _, _, _, rfl, h⟩
   ·replace h := bif_f h g21
    refine Vc [] [2, 3] ⟨[(6, kH 0), (7, kH 1)], [], [⟨.row, 3, 1, ((l0.length : Nat) : Int).toNat, .z z6_5⟩, ⟨(.ro true), 3, 1, m7_5, .z z7_5⟩]⟩ (W_exit ?_)
    obtain ⟨r51_1, g20, h⟩ := bind_some' h
    refine Vgs hT (fT 1 (rtrim_ok n r51_1) fN) [] [] [0, 1] ⟨[(4, .c (.sl 0 0 r51_1.2)), (5, kH 1)], [], [⟨.row, 3, 1, ((l0.length : Nat) : Int).toNat, .z z6_5⟩, ⟨(.ro true), 3, 1, m7_5, .z z7_5⟩]⟩ (aP g20 aN) ?_
    refine Vc [.vw 4 true] [2, 1] (rDiv_R (((z6_5.drop 0).take r51_1.2), r51_1.2, z7_5, m7_5)) (W_ret ?_)
    exact ⟨.inl rfl, by cases h; rfl⟩
 ·rintro e s' ⟨he, rfl⟩
  refine ⟨he, fun a' w' hr => ?_⟩
  exact retS_ok tabO_dd hr (rs := [.tmp 4, .tmp 5]) rfl (objs := [0, 1]) (by kernel_rfl)
def rRest_R (r : List Int × Nat) : S := ⟨[(4, kH 0)], [], [⟨(.ro true), 3, 1, r.2, .z r.1⟩]⟩
def rRest_ct (n : Nat) (r : List Int × Nat) : Ct := ctc aZ fun x0 l0 => ctc aZ fun x1 l1 => ct0 fun H => ([rRest n l0 l1 = some r], shA H.length (kH 0), shH H.length [⟨(.ro true), 3, 1, r.2, .z r.1⟩])
theorem rRest_ok (n : Nat) (r : List Int × Nat) : FnOk Tryd.prog Tr 55 (rRest_ct n r) := by
 refine ⟨fun args H g av objs hF hg ρ w vals hG hp ha => ?_, _, Tryd.func55, by kernel_rfl, by kernel_rfl⟩
 obtain ⟨x0, _, l0, rfl, e0, hF⟩ := ctc_inv hF
 obtain ⟨x1, _, l1, rfl, e1, hF⟩ := ctc_inv hF
 obtain ⟨rfl, rfl, rfl, rfl⟩ := ct0_inv hF
 dsimp only
 obtain ⟨v0, vals, rfl, k0, ha⟩ := F2.inv ha
 obtain ⟨v1, vals, rfl, k1, ha⟩ := F2.inv ha
 obtain rfl := F2.inv0 ha
 have h : rRest n l0 l1 = some r := hg
 obtain ⟨p0, s0, o0⟩ := aZ_ok hp e0 (k0) 3
 obtain ⟨p1, s1, o1⟩ := aZ_ok hp e1 (k1) 3
 have hR0 := rel0 (gv := (fun _ => undef)) (n := 14) (w := w) (args := [kH 0, kH 1]) (H := [⟨.ro false, 3, 1, l0.length, .z l0⟩, ⟨.ro false, 3, 1, l1.length, .z l1⟩]) (gl := []) (hpL (ps := [p0, p1]) (F2.cons o0 (F2.cons o1 F2.nil))) (allRo_ok rfl) (F2.cons s0 (F2.cons s1 F2.nil)) GlR.nil (by simp)
 clear ha hp hg hF k0 k1 e0 e1
 refine calls_W Tryd.func55 rfl rfl hR0 (Q := fun e s => (e = .ret ∨ e = .normal) ∧ s = rRest_R r) ?_ ?_
 ·clear hR0
  unfold rRest at h
  have hT := tabO_dd
  refine Vrs hT [0, 1] ⟨[(0, kH 0), (1, kH 1)], [], [oz 3 l0, oz 3 l1]⟩ ?_
  obtain ⟨r10, g1, h⟩ := bind_some' h
  refine Vgs hT (fT 2 (rDiv_ok n r10) fN) [] [] [3] ⟨[(6, kH 0)], [], [⟨(.ro true), 3, 1, r10.2.2.2, .z r10.2.2.1⟩]⟩ (aP g1 aN) ?_
  refine Vrs hT [0] ⟨[(4, kH 0)], [], [⟨(.ro true), 3, 1, r10.2.2.2, .z r10.2.2.1⟩]⟩ ?_
  refine Vc [] [0] (rRest_R (r10.2.2.1, r10.2.2.2)) (W_ret ?_)
  exact ⟨.inl rfl, by cases h; rfl⟩
 ·rintro e s' ⟨he, rfl⟩
  refine ⟨he, fun a' w' hr => ?_⟩
  exact retS_ok tabO_dd hr (rs := [.tmp 4]) rfl (objs := [0]) (by kernel_rfl)
def rExp_j1_E (a1 : List Int) (a2 : List Int) (r15 : List Int × Nat) (i9_2 : Int) (z7_11 : List Int) (m7_11 : Nat) : S := ⟨[(1, kH 0), (2, kH 1), (7, kH 2), (8, kH 3), (9, kI i9_2)], [], [oz 3 a1, oz 3 a2, ⟨(.ro true), 3, 1, m7_11, .z z7_11⟩, ⟨(.ro true), 3, 1, r15.2, .z r15.1⟩]⟩
abbrev rExp_j1_P (n : Nat) (a1 : List Int) (a2 : List Int) (r15 : List Int × Nat) (i9_2 : Int) (k_l1 : (List Int) → Nat → Int → Option (List Int × Nat)) (r : List Int × Nat) : S → Prop := fun s => ∃ (z7_11 : List Int), ∃ (m7_11 : Nat), s = rExp_j1_E a1 a2 r15 i9_2 z7_11 m7_11 ∧ rExp_j1 n a1 a2 r15 i9_2 k_l1 z7_11 m7_11 = some r
def rExp_l1_E (a1 : List Int) (a2 : List Int) (r15 : List Int × Nat) (z7_9 : List Int) (m7_9 : Nat) (i9_2 : Int) : S := ⟨[(1, kH 0), (2, kH 1), (7, kH 2), (8, kH 3), (9, kI i9_2)], [], [oz 3 a1, oz 3 a2, ⟨(.ro true), 3, 1, m7_9, .z z7_9⟩, ⟨(.ro true), 3, 1, r15.2, .z r15.1⟩]⟩
abbrev rExp_l1_P (n : Nat) (a1 : List Int) (a2 : List Int) (r15 : List Int × Nat) (r : List Int × Nat) (fu : Nat) : S → Prop := fun s => ∃ (z7_9 : List Int), ∃ (m7_9 : Nat), ∃ (i9_2 : Int), s = rExp_l1_E a1 a2 r15 z7_9 m7_9 i9_2 ∧ rExp_l1 n a1 a2 r15 fu z7_9 m7_9 i9_2 = some r
def rExp_R (r : List Int × Nat) : S := ⟨[(6, kH 0)], [], [⟨(.ro true), 3, 1, r.2, .z r.1⟩]⟩
def rExp_ct (n : Nat) (r : List Int × Nat) : Ct := ctc aZ fun x0 l0 => ctc aZ fun x1 l1 => ctc aZ fun x2 l2 => ct0 fun H => ([rExp n l0 l1 l2 = some r], shA H.length (kH 0), shH H.length [⟨(.ro true), 3, 1, r.2, .z r.1⟩])
theorem rExp_ok (n : Nat) (r : List Int × Nat) : FnOk Tryd.prog Tr 33 (rExp_ct n r) := by
 refine ⟨fun args H g av objs hF hg ρ w vals hG hp ha => ?_, _, Tryd.func33, by kernel_rfl, by kernel_rfl⟩
 obtain ⟨x0, _, l0, rfl, e0, hF⟩ := ctc_inv hF
 obtain ⟨x1, _, l1, rfl, e1, hF⟩ := ctc_inv hF
 obtain ⟨x2, _, l2, rfl, e2, hF⟩ := ctc_inv hF
 obtain ⟨rfl, rfl, rfl, rfl⟩ := ct0_inv hF
 dsimp only
 obtain ⟨v0, vals, rfl, k0, ha⟩ := F2.inv ha
 obtain ⟨v1, vals, rfl, k1, ha⟩ := F2.inv ha
 obtain ⟨v2, vals, rfl, k2, ha⟩ := F2.inv ha
 obtain rfl := F2.inv0 ha
 have h : rExp n l0 l1 l2 = some r := hg
 obtain ⟨p0, s0, o0⟩ := aZ_ok hp e0 (k0) 3
 obtain ⟨p1, s1, o1⟩ := aZ_ok hp e1 (k1) 3
 obtain ⟨p2, s2, o2⟩ := aZ_ok hp e2 (k2) 3
 have hR0 := rel0 (gv := (fun _ => undef)) (n := 45) (w := w) (args := [kH 0, kH 1, kH 2]) (H := [⟨.ro false, 3, 1, l0.length, .z l0⟩, ⟨.ro false, 3, 1, l1.length, .z l1⟩, ⟨.ro false, 3, 1, l2.length, .z l2⟩]) (gl := []) (hpL (ps := [p0, p1, p2]) (F2.cons o0 (F2.cons o1 (F2.cons o2 F2.nil)))) (allRo_ok rfl) (F2.cons s0 (F2.cons s1 (F2.cons s2 F2.nil))) GlR.nil (by simp)
 clear ha hp hg hF k0 k1 k2 e0 e1 e2
 refine calls_W Tryd.func33 rfl rfl hR0 (Q := fun e s => (e = .ret ∨ e = .normal) ∧ s = rExp_R r) ?_ ?_
 ·clear hR0
  unfold rExp at h
  have hT := tabO_dd
  refine Vrs hT [0, 1, 2] ⟨[(0, kH 0), (1, kH 1), (2, kH 2)], [], [oz 3 l0, oz 3 l1, oz 3 l2]⟩ ?_
  obtain ⟨r12, g1, h⟩ := bind_some' h
  refine Vgs hT (fT 2 (rRest_ok n r12) fN) [] [] [0, 1, 2, 4] ⟨[(0, kH 0), (1, kH 1), (2, kH 2), (7, kH 3)], [], [oz 3 l0, oz 3 l1, oz 3 l2, ⟨(.ro true), 3, 1, r12.2, .z r12.1⟩]⟩ (aP g1 aN) ?_
  obtain ⟨r15, g2, h⟩ := bind_some' h
  refine Vgs hT (fT 2 (rRest_ok n r15) fN) [] [] [1, 2, 3, 4] ⟨[(1, kH 0), (2, kH 1), (7, kH 2), (8, kH 3)], [], [oz 3 l1, oz 3 l2, ⟨(.ro true), 3, 1, r12.2, .z r12.1⟩, ⟨(.ro true), 3, 1, r15.2, .z r15.1⟩]⟩ (aP g2 aN) ?_
  refine W_seq ?_
  obtain ⟨g3, g4, h⟩ := gd2 h
  refine Vgs hT fN [] [] [0, 1, 2, 3] ⟨[(1, kH 0), (2, kH 1), (7, kH 2), (8, kH 3), (9, kI ((16 * ((l1.length : Nat) : Int)) - 1))], [], [oz 3 l1, oz 3 l2, ⟨(.ro true), 3, 1, r12.2, .z r12.1⟩, ⟨(.ro true), 3, 1, r15.2, .z r15.1⟩]⟩ (aP g3 (aP g4 aN)) ?_
  refine W_block ?_
  refine Vc [] [0, 1, 2, 3] (rExp_l1_E l1 l2 r15 r12.1 r12.2 ((16 * ((l1.length : Nat) : Int)) - 1)) (W_lp ((rExp_l1_P n l1 l2 r15 r)) n ⟨_, _, _, rfl, h⟩ ?_)
  rintro fu_l1 _ ⟨z7_9, m7_9, i9_2, rfl, h⟩
  cases fu_l1 with
  | zero => cases h
  | succ fu_l1 =>
   refine ⟨fu_l1, rfl, ?_⟩
   rw [rExp_l1] at h
   refine W_seq ?_
   refine Vrs hT [0, 1, 2, 3] ⟨[(1, kH 0), (2, kH 1), (7, kH 2), (8, kH 3), (9, kI i9_2), (21, kB (decide ((0 : Int) ≤ i9_2)))], [], [oz 3 l1, oz 3 l2, ⟨(.ro true), 3, 1, m7_9, .z z7_9⟩, ⟨(.ro true), 3, 1, r15.2, .z r15.1⟩]⟩ ?_
   refine Vi ((decide ((0 : Int) ≤ i9_2))) (fun g18 => ?_) (fun g18 => ?_)
   ·replace h := bif_t h g18
    refine Vc [] [0, 1, 2, 3] ⟨[(1, kH 0), (2, kH 1), (7, kH 2), (8, kH 3), (9, kI i9_2)], [], [oz 3 l1, oz 3 l2, ⟨(.ro true), 3, 1, m7_9, .z z7_9⟩, ⟨(.ro true), 3, 1, r15.2, .z r15.1⟩]⟩ (W_skip ?_)
    refine W_join (rExp_j1_P n l1 l2 r15 i9_2 (rExp_l1 n l1 l2 r15 fu_l1) r) ?_ ?_
    ·rintro _ ⟨z7_11, m7_11, rfl, h⟩
     unfold rExp_j1 at h
     obtain ⟨g5, h⟩ := gd_some h
     refine Vg hT fN [] [] [0, 1, 2, 3] (rExp_l1_E l1 l2 r15 z7_11 m7_11 (i9_2 - 1)) (aP g5 aN) ?_
     exact ⟨_, _, _, rfl, h⟩
    ·refine W_block ?_
     obtain ⟨r26_3, g6, h⟩ := bind_some' h
     obtain ⟨r28_3, g7, h⟩ := bind_some' h
     refine Vgs hT (fT 2 (rMul_ok n r26_3) (fT 4 (rRest_ok n r28_3) fN)) [] [] [0, 1, 5, 3] ⟨[(1, kH 0), (2, kH 1), (7, kH 2), (8, kH 3), (9, kI i9_2)], [], [oz 3 l1, oz 3 l2, ⟨(.ro true), 3, 1, r28_3.2, .z r28_3.1⟩, ⟨(.ro true), 3, 1, r15.2, .z r15.1⟩]⟩ (aP g6 (aP g7 aN)) ?_
     obtain ⟨g8, g9, g10, g11, g12, h⟩ := gd5 h
     obtain ⟨g13, g14, h⟩ := gd2 h
     refine Vgs hT fN [] [] [0, 1, 2, 3] ⟨[(1, kH 0), (2, kH 1), (7, kH 2), (8, kH 3), (9, kI i9_2), (38, kB ((bitI .and .i64 ((l1.getD ((Int.tdiv i9_2 16).toNat) 0) / 2 ^ ((Int.tmod i9_2 16).toNat)) 1) == 1))], [], [oz 3 l1, oz 3 l2, ⟨(.ro true), 3, 1, r28_3.2, .z r28_3.1⟩, ⟨(.ro true), 3, 1, r15.2, .z r15.1⟩]⟩ (aP g8 (aP g9 (aP g10 (aP g11 (aP g12 (aP g13 (aP g14 aN))))))) ?_
     refine Vi (((bitI .and .i64 ((l1.getD ((Int.tdiv i9_2 16).toNat) 0) / 2 ^ ((Int.tmod i9_2 16).toNat)) 1) == 1)) (fun g17 => ?_) (fun g17 => ?_)
     ·replace h := bif_t h g17
      obtain ⟨r41_3, g15, h⟩ := bind_some' h
      obtain ⟨r43_3, g16, h⟩ := bind_some' h
      refine Vg hT (fT 2 (rMul_ok n r41_3) (fT 4 (rRest_ok n r43_3) fN)) [] [] [0, 1, 5, 3] (rExp_j1_E l1 l2 r15 i9_2 r43_3.1 r43_3.2) (aP g15 (aP g16 aN)) ?_
      exact ⟨_, _, rfl, h⟩
     ·replace h := bif_f h g17
      refine Vc [] [0, 1, 2, 3] (rExp_j1_E l1 l2 r15 i9_2 r28_3.1 r28_3.2) (W_skip ?_)
      exact ⟨_, _, rfl, h⟩
   ·replace h := bif_f h g18
    refine Vc [] [2] ⟨[(7, kH 0)], [], [⟨(.ro true), 3, 1, m7_9, .z z7_9⟩]⟩ (W_exit ?_)
    refine Vrs hT [0] ⟨[(6, kH 0)], [], [⟨(.ro true), 3, 1, m7_9, .z z7_9⟩]⟩ ?_
    refine Vc [] [0] (rExp_R (z7_9, m7_9)) (W_ret ?_)
    exact ⟨.inl rfl, by cases h; rfl⟩
 ·rintro e s' ⟨he, rfl⟩
  refine ⟨he, fun a' w' hr => ?_⟩
  exact retS_ok tabO_dd hr (rs := [.tmp 6]) rfl (objs := [0]) (by kernel_rfl)
def rBytes_j1_E (a0 : List UInt8) (z3_2 : List Int) (i4_2 : Int) (i5_8 : Int) : S := ⟨[(0, kH 0), (3, kH 1), (4, kI i4_2), (5, kI i5_8)], [], [ob 5 a0, nz 3 z3_2]⟩
abbrev rBytes_j1_P (n : Nat) (a0 : List UInt8) (z3_2 : List Int) (i4_2 : Int) (k_l1 : (List Int) → Int → Option (List Int × Nat)) (r : List Int × Nat) : S → Prop := fun s => ∃ (i5_8 : Int), s = rBytes_j1_E a0 z3_2 i4_2 i5_8 ∧ rBytes_j1 n a0 z3_2 i4_2 k_l1 i5_8 = some r
def rBytes_l1_E (a0 : List UInt8) (z3_2 : List Int) (i4_2 : Int) : S := ⟨[(0, kH 0), (3, kH 1), (4, kI i4_2)], [], [ob 5 a0, nz 3 z3_2]⟩
abbrev rBytes_l1_P (n : Nat) (a0 : List UInt8) (r : List Int × Nat) (fu : Nat) : S → Prop := fun s => ∃ (z3_2 : List Int), ∃ (i4_2 : Int), s = rBytes_l1_E a0 z3_2 i4_2 ∧ rBytes_l1 n a0 fu z3_2 i4_2 = some r
def rBytes_R (r : List Int × Nat) : S := ⟨[(2, kH 0)], [], [⟨(.ro true), 3, 1, r.2, .z r.1⟩]⟩
def rBytes_ct (n : Nat) (r : List Int × Nat) : Ct := ctc aB fun x0 l0 => ct0 fun H => ([rBytes n l0 = some r], shA H.length (kH 0), shH H.length [⟨(.ro true), 3, 1, r.2, .z r.1⟩])
theorem rBytes_ok (n : Nat) (r : List Int × Nat) : FnOk Tryd.prog Tr 30 (rBytes_ct n r) := by
 refine ⟨fun args H g av objs hF hg ρ w vals hG hp ha => ?_, _, Tryd.func30, by kernel_rfl, by kernel_rfl⟩
 obtain ⟨x0, _, l0, rfl, e0, hF⟩ := ctc_inv hF
 obtain ⟨rfl, rfl, rfl, rfl⟩ := ct0_inv hF
 dsimp only
 obtain ⟨v0, vals, rfl, k0, ha⟩ := F2.inv ha
 obtain rfl := F2.inv0 ha
 have h : rBytes n l0 = some r := hg
 obtain ⟨p0, s0, o0⟩ := aB_ok hp e0 (k0) 5
 have hR0 := rel0 (gv := (fun _ => undef)) (n := 35) (w := w) (args := [kH 0]) (H := [⟨.ro false, 5, 1, l0.length, .b l0⟩]) (gl := []) (hpL (ps := [p0]) (F2.cons o0 F2.nil)) (allRo_ok rfl) (F2.cons s0 F2.nil) GlR.nil (by simp)
 clear ha hp hg hF k0 e0
 refine calls_W Tryd.func30 rfl rfl hR0 (Q := fun e s => (e = .ret ∨ e = .normal) ∧ s = rBytes_R r) ?_ ?_
 ·clear hR0
  unfold rBytes at h
  have hT := tabO_dd
  refine Vrs hT [0] ⟨[(0, kH 0)], [], [ob 5 l0]⟩ ?_
  refine Vrs hT [0] ⟨[(0, kH 0), (3, .c (.nils))], [], [ob 5 l0]⟩ ?_
  refine W_seq ?_
  obtain ⟨g1, h⟩ := gd_some h
  refine Vgs hT fN [] [] [0] ⟨[(0, kH 0), (3, .c (.nils)), (4, kI (((l0.length : Nat) : Int) - 1))], [], [ob 5 l0]⟩ (aP g1 aN) ?_
  refine W_block ?_
  refine Vc [.nil 3 3 1 (.z [])] [0, 1] (rBytes_l1_E l0 [] (((l0.length : Nat) : Int) - 1)) (W_lp ((rBytes_l1_P n l0 r)) n ⟨_, _, rfl, h⟩ ?_)
  rintro fu_l1 _ ⟨z3_2, i4_2, rfl, h⟩
  cases fu_l1 with
  | zero => cases h
  | succ fu_l1 =>
   refine ⟨fu_l1, rfl, ?_⟩
   rw [rBytes_l1] at h
   refine W_seq ?_
   refine Vrs hT [0, 1] ⟨[(0, kH 0), (3, kH 1), (4, kI i4_2), (10, kB (decide ((0 : Int) ≤ i4_2)))], [], [ob 5 l0, nz 3 z3_2]⟩ ?_
   refine Vi ((decide ((0 : Int) ≤ i4_2))) (fun g13 => ?_) (fun g13 => ?_)
   ·replace h := bif_t h g13
    refine W_skip ?_
    refine W_seq ?_
    refine W_block ?_
    obtain ⟨g2, g3, h⟩ := gd2 h
    refine Vgs hT fN [] [] [0, 1] ⟨[(0, kH 0), (3, kH 1), (4, kI i4_2), (5, kI (((l0.getD i4_2.toNat 0).toNat : Nat) : Int))], [], [ob 5 l0, nz 3 z3_2]⟩ (aP g2 (aP g3 aN)) ?_
    refine W_join (rBytes_j1_P n l0 z3_2 i4_2 (rBytes_l1 n l0 fu_l1) r) ?_ ?_
    ·rintro _ ⟨i5_8, rfl, h⟩
     unfold rBytes_j1 at h
     obtain ⟨g4, h⟩ := gd_some h
     refine Vg hT fN [] [] [0, 3] ⟨[(0, kH 0), (3, kH 1), (4, kI i4_2)], [], [ob 5 l0, nz 3 (z3_2 ++ [i5_8])]⟩ (aP g4 aN) ?_
     obtain ⟨g5, h⟩ := gd_some h
     refine Vg hT fN [] [] [0, 1] (rBytes_l1_E l0 (z3_2 ++ [i5_8]) (i4_2 - 2)) (aP g5 aN) ?_
     exact ⟨_, _, rfl, h⟩
    ·refine W_seq ?_
     refine Vr hT [0, 1] ⟨[(0, kH 0), (3, kH 1), (4, kI i4_2), (5, kI (((l0.getD i4_2.toNat 0).toNat : Nat) : Int)), (19, kB (decide ((0 : Int) < i4_2)))], [], [ob 5 l0, nz 3 z3_2]⟩ ?_
     refine Vi ((decide ((0 : Int) < i4_2))) (fun g11 => ?_) (fun g11 => ?_)
     ·replace h := bif_t h g11
      obtain ⟨g6, g7, g8, g9, g10, h⟩ := gd5 h
      refine Vg hT fN [] [] [0, 1] (rBytes_j1_E l0 z3_2 i4_2 ((((l0.getD i4_2.toNat 0).toNat : Nat) : Int) + ((((l0.getD ((i4_2 - 1).toNat) 0).toNat : Nat) : Int) * 256))) (aP g6 (aP g7 (aP g8 (aP g9 (aP g10 aN))))) ?_
      exact ⟨_, rfl, h⟩
     ·replace h := bif_f h g11
      refine Vc [] [0, 1] (rBytes_j1_E l0 z3_2 i4_2 (((l0.getD i4_2.toNat 0).toNat : Nat) : Int)) (W_skip ?_)
      exact ⟨_, rfl, h⟩
   ·replace h := bif_f h g13
    refine Vc [] [1] ⟨[(3, kH 0)], [], [nz 3 z3_2]⟩ (W_exit ?_)
    obtain ⟨r34_2, g12, h⟩ := bind_some' h
    refine Vgs hT (fT 1 (rtrim_ok n r34_2) fN) [] [] [0] ⟨[(2, .c (.sl 0 0 r34_2.2))], [], [nz 3 z3_2]⟩ (aP g12 aN) ?_
    refine Vc [.vw 2 true] [1] (rBytes_R (((z3_2.drop 0).take r34_2.2), r34_2.2)) (W_ret ?_)
    exact ⟨.inl rfl, by cases h; rfl⟩
 ·rintro e s' ⟨he, rfl⟩
  refine ⟨he, fun a' w' hr => ?_⟩
  exact retS_ok tabO_dd hr (rs := [.tmp 2]) rfl (objs := [0]) (by kernel_rfl)
def rWrite_j1_E (a0 : List Int) (a1 : Int) (l6_1 : List UInt8) (i7_1 : Int) (i8_5 : Int) : S := ⟨[(0, kH 0), (1, kI a1), (6, kH 1), (7, kI i7_1), (8, kI i8_5)], [], [oz 3 a0, ⟨.row, 5, 1, a1.toNat, .b l6_1⟩]⟩
abbrev rWrite_j1_P (n : Nat) (a0 : List Int) (a1 : Int) (l6_1 : List UInt8) (i7_1 : Int) (k_l1 : (List UInt8) → Int → Option (List UInt8 × Nat × Bool)) (r : List UInt8 × Nat × Bool) : S → Prop := fun s => ∃ (i8_5 : Int), s = rWrite_j1_E a0 a1 l6_1 i7_1 i8_5 ∧ rWrite_j1 n a0 a1 l6_1 i7_1 k_l1 i8_5 = some r
def rWrite_l1_E (a0 : List Int) (a1 : Int) (l6_1 : List UInt8) (i7_1 : Int) : S := ⟨[(0, kH 0), (1, kI a1), (6, kH 1), (7, kI i7_1)], [], [oz 3 a0, ⟨.row, 5, 1, a1.toNat, .b l6_1⟩]⟩
abbrev rWrite_l1_P (n : Nat) (a0 : List Int) (a1 : Int) (r : List UInt8 × Nat × Bool) (fu : Nat) : S → Prop := fun s => ∃ (l6_1 : List UInt8), ∃ (i7_1 : Int), s = rWrite_l1_E a0 a1 l6_1 i7_1 ∧ rWrite_l1 n a0 a1 fu l6_1 i7_1 = some r
def rWrite_R (r : List UInt8 × Nat × Bool) : S := ⟨[(4, kH 0), (5, kB r.2.2)], [], [⟨.row, 5, 1, r.2.1, .b r.1⟩]⟩
def rWrite_ct (n : Nat) (r : List UInt8 × Nat × Bool) : Ct := ctc aZ fun x0 l0 => ctc (fun _ => aI) fun x1 l1 => ct0 fun H => ([rWrite n l0 l1 = some r], shA H.length (.t [.c (.wh 0), .c (.s (.b r.2.2))]), shH H.length [⟨.row, 5, 1, r.2.1, .b r.1⟩])
theorem rWrite_ok (n : Nat) (r : List UInt8 × Nat × Bool) : FnOk Tryd.prog Tr 32 (rWrite_ct n r) := by
 refine ⟨fun args H g av objs hF hg ρ w vals hG hp ha => ?_, _, Tryd.func32, by kernel_rfl, by kernel_rfl⟩
 obtain ⟨x0, _, l0, rfl, e0, hF⟩ := ctc_inv hF
 obtain ⟨x1, _, l1, rfl, e1, hF⟩ := ctc_inv hF
 obtain ⟨rfl, rfl, rfl, rfl⟩ := ct0_inv hF
 dsimp only
 obtain ⟨v0, vals, rfl, k0, ha⟩ := F2.inv ha
 obtain ⟨v1, vals, rfl, k1, ha⟩ := F2.inv ha
 obtain rfl := F2.inv0 ha
 have h : rWrite n l0 l1 = some r := hg
 obtain ⟨p0, s0, o0⟩ := aZ_ok hp e0 (k0) 3
 have s1 := aI_ok e1 (k1)
 have hR0 := rel0 (gv := (fun _ => undef)) (n := 51) (w := w) (args := [kH 0, kI l1]) (H := [⟨.ro false, 3, 1, l0.length, .z l0⟩]) (gl := []) (hpL (ps := [p0]) (F2.cons o0 F2.nil)) (allRo_ok rfl) (F2.cons s0 (F2.cons s1 F2.nil)) GlR.nil (by simp)
 clear ha hp hg hF k0 k1 e0 e1
 refine calls_W Tryd.func32 rfl rfl hR0 (Q := fun e s => (e = .ret ∨ e = .normal) ∧ s = rWrite_R r) ?_ ?_
 ·clear hR0
  unfold rWrite at h
  have hT := tabO_dd
  refine Vrs hT [0] ⟨[(0, kH 0), (1, kI l1)], [], [oz 3 l0]⟩ ?_
  refine W_seq ?_
  refine W_seq ?_
  rcases Bool.eq_false_or_eq_true (decide (l1 < (0 : Int))) with g1 | g1
  ·replace h := bif_t h g1
   refine Vg hT fN [(2, true)] [] [0] ⟨[(0, kH 0), (1, kI l1), (16, kB true)], [], [oz 3 l0]⟩ (aP g1 aN) ?_
   refine Vi (true) (fun _ => ?_) (fun hb => by cases hb)
   refine Vrs hT [] ⟨[(4, .c (.nils)), (5, kB false)], [], []⟩ ?_
   refine Vc [.nil 4 5 1 (.b [])] [0] (rWrite_R ([], 0, false)) (W_ret ?_)
   exact ⟨.inl rfl, by cases h; rfl⟩
  ·replace h := bif_f h g1
   obtain ⟨r13, g2, h⟩ := bind_some' h
   refine Vg hT (fT 4 (rSize_ok n r13) fN) [(2, false)] [] [0] ⟨[(0, kH 0), (1, kI l1), (16, kB (decide (l1 < r13)))], [], [oz 3 l0]⟩ (aP g1 (aP g2 aN)) ?_
   refine Vi ((decide (l1 < r13))) (fun g24 => ?_) (fun g24 => ?_)
   ·replace h := bif_t h g24
    refine Vrs hT [] ⟨[(4, .c (.nils)), (5, kB false)], [], []⟩ ?_
    refine Vc [.nil 4 5 1 (.b [])] [0] (rWrite_R ([], 0, false)) (W_ret ?_)
    exact ⟨.inl rfl, by cases h; rfl⟩
   ·replace h := bif_f h g24
    refine W_skip ?_
    obtain ⟨g3, g4, g5, h⟩ := gd3 h
    refine Vgs hT fN [] [] [0, 1] ⟨[(0, kH 0), (1, kI l1), (6, kH 1)], [], [oz 3 l0, ⟨.row, 5, 1, l1.toNat, .b (List.replicate l1.toNat 0)⟩]⟩ (aP g3 (aP g4 (aP g5 aN))) ?_
    refine W_seq ?_
    refine Vrs hT [0, 1] ⟨[(0, kH 0), (1, kI l1), (6, kH 1), (7, kI 0)], [], [oz 3 l0, ⟨.row, 5, 1, l1.toNat, .b (List.replicate l1.toNat 0)⟩]⟩ ?_
    refine W_block ?_
    refine Vc [] [0, 1] (rWrite_l1_E l0 l1 (List.replicate l1.toNat 0) 0) (W_lp ((rWrite_l1_P n l0 l1 r)) n ⟨_, _, rfl, h⟩ ?_)
    rintro fu_l1 _ ⟨l6_1, i7_1, rfl, h⟩
    cases fu_l1 with
    | zero => cases h
    | succ fu_l1 =>
     refine ⟨fu_l1, rfl, ?_⟩
     rw [rWrite_l1] at h
     refine W_seq ?_
     refine W_seq ?_
     rcases Bool.eq_false_or_eq_true (decide (i7_1 < l1)) with g6 | g6
     ·replace h := bif_t h g6
      obtain ⟨g7, g8, h⟩ := gd2 h
      refine Vg hT fN [(3, true)] [] [0, 1] ⟨[(0, kH 0), (1, kI l1), (6, kH 1), (7, kI i7_1), (28, kB (decide ((Int.tdiv i7_1 2) < ((l0.length : Nat) : Int))))], [], [oz 3 l0, ⟨.row, 5, 1, l1.toNat, .b l6_1⟩]⟩ (aP g6 (aP g7 (aP g8 aN))) ?_
      refine Vi ((decide ((Int.tdiv i7_1 2) < ((l0.length : Nat) : Int)))) (fun g23 => ?_) (fun g23 => ?_)
      ·replace h := bif_t h g23
       refine W_skip ?_
       refine W_seq ?_
       refine W_block ?_
       obtain ⟨g9, g10, g11, g12, h⟩ := gd4 h
       refine Vgs hT fN [] [] [0, 1] ⟨[(0, kH 0), (1, kI l1), (6, kH 1), (7, kI i7_1), (8, kI (l0.getD ((Int.tdiv i7_1 2).toNat) 0))], [], [oz 3 l0, ⟨.row, 5, 1, l1.toNat, .b l6_1⟩]⟩ (aP g9 (aP g10 (aP g11 (aP g12 aN)))) ?_
       refine W_join (rWrite_j1_P n l0 l1 l6_1 i7_1 (rWrite_l1 n l0 l1 fu_l1) r) ?_ ?_
       ·rintro _ ⟨i8_5, rfl, h⟩
        unfold rWrite_j1 at h
        obtain ⟨g13, g14, g15, g16, g17, h⟩ := gd5 h
        refine Vg hT fN [] [] [0, 1] ⟨[(0, kH 0), (1, kI l1), (6, kH 1), (7, kI i7_1)], [], [oz 3 l0, ⟨.row, 5, 1, l1.toNat, .b (l6_1.set (((l1 - 1) - i7_1).toNat) (UInt8.ofInt (Int.tmod i8_5 256)))⟩]⟩ (aP g13 (aP g14 (aP g15 (aP g16 (aP g17 aN))))) ?_
        obtain ⟨g18, h⟩ := gd_some h
        refine Vg hT fN [] [] [0, 1] (rWrite_l1_E l0 l1 (l6_1.set (((l1 - 1) - i7_1).toNat) (UInt8.ofInt (Int.tmod i8_5 256))) (i7_1 + 1)) (aP g18 aN) ?_
        exact ⟨_, _, rfl, h⟩
       ·refine W_seq ?_
        obtain ⟨g19, h⟩ := gd_some h
        refine Vg hT fN [] [] [0, 1] ⟨[(0, kH 0), (1, kI l1), (6, kH 1), (7, kI i7_1), (8, kI (l0.getD ((Int.tdiv i7_1 2).toNat) 0)), (38, kB ((Int.tmod i7_1 2) == 1))], [], [oz 3 l0, ⟨.row, 5, 1, l1.toNat, .b l6_1⟩]⟩ (aP g19 aN) ?_
        refine Vi (((Int.tmod i7_1 2) == 1)) (fun g22 => ?_) (fun g22 => ?_)
        ·replace h := bif_t h g22
         obtain ⟨g20, g21, h⟩ := gd2 h
         refine Vg hT fN [] [] [0, 1] (rWrite_j1_E l0 l1 l6_1 i7_1 (Int.tdiv (l0.getD ((Int.tdiv i7_1 2).toNat) 0) 256)) (aP g20 (aP g21 aN)) ?_
         exact ⟨_, rfl, h⟩
        ·replace h := bif_f h g22
         refine Vc [] [0, 1] (rWrite_j1_E l0 l1 l6_1 i7_1 (l0.getD ((Int.tdiv i7_1 2).toNat) 0)) (W_skip ?_)
         exact ⟨_, rfl, h⟩
      ·replace h := bif_f h g23
       refine Vc [] [1] ⟨[(6, kH 0)], [], [⟨.row, 5, 1, l1.toNat, .b l6_1⟩]⟩ (W_exit ?_)
       refine Vrs hT [0] ⟨[(4, kH 0), (5, kB true)], [], [⟨.row, 5, 1, l1.toNat, .b l6_1⟩]⟩ ?_
       refine Vc [] [0] (rWrite_R (l6_1, l1.toNat, true)) (W_ret ?_)
       exact ⟨.inl rfl, by cases h; rfl⟩
     ·replace h := bif_f h g6
      refine Vg hT fN [(3, false)] [] [0, 1] ⟨[(0, kH 0), (1, kI l1), (6, kH 1), (7, kI i7_1), (28, kB false)], [], [oz 3 l0, ⟨.row, 5, 1, l1.toNat, .b l6_1⟩]⟩ (aP g6 aN) ?_
      refine Vi (false) (fun hb => by cases hb) (fun _ => ?_)
      refine Vc [] [1] ⟨[(6, kH 0)], [], [⟨.row, 5, 1, l1.toNat, .b l6_1⟩]⟩ (W_exit ?_)
      refine Vrs hT [0] ⟨[(4, kH 0), (5, kB true)], [], [⟨.row, 5, 1, l1.toNat, .b l6_1⟩]⟩ ?_
      refine Vc [] [0] (rWrite_R (l6_1, l1.toNat, true)) (W_ret ?_)
      exact ⟨.inl rfl, by cases h; rfl⟩
 ·rintro e s' ⟨he, rfl⟩
  refine ⟨he, fun a' w' hr => ?_⟩
  exact retS_ok tabO_dd hr (rs := [.tmp 4, .tmp 5]) rfl (objs := [0]) (by kernel_rfl)
end Go.Proofs.YthichmclbiggmaaDoor
end
