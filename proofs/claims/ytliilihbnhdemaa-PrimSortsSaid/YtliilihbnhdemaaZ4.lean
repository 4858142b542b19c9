import Derived.Test.YtliilihbnhdemaaZ3
import Derived.Test.YtliilihbnhdemaaProg
set_option linter.unusedVariables false
set_option linter.unusedSimpArgs false
section
namespace Go.Proofs.Ytliilihbnhdemaa
open Go.RowKit Go.Ch Go.Sx
def tabL_psc : List (TypeId × Ti) := [(5, ⟨.int .u8, 1, 1, true, some [.int .u8]⟩),
 (9, ⟨.str, 1, 16, true, some [.str]⟩),
 (22, ⟨.sl 5, 1, 24, false, some [.nils]⟩),
 (82, ⟨.sl 22, 1, 24, false, some [.nils]⟩)]
def tab_psc : Tab := fun t => (tabL_psc).lookup t
theorem tabE_psc : (tabL_psc.map fun p => tiOf Try.prog p.1) = tabL_psc.map fun p => some p.2 := by kernel_rfl
theorem tabO_psc : TabOk Try.prog tab_psc := tab_of tabE_psc
def lSorts_j1 (n : Nat) (a0 : List (List UInt8)) (r9 : Bool) (r15 : List Nat) (i5_2 : Int) (i8_13 : Int) (k_l2 : Int → Int → Int → Option (Bool)) (i6_138 : Int) (i7_55 : Int) : Option (Bool) :=
 gd (okI .i64 (i8_13 + 1)) <|
 k_l2 i6_138 i7_55 (i8_13 + 1)
def lSorts_j2 (n : Nat) (a0 : List (List UInt8)) (r9 : Bool) (r15 : List Nat) (i5_2 : Int) (i7_53 : Int) (i8_13 : Int) (k_l2 : Int → Int → Int → Option (Bool)) (i6_139 : Int) : Option (Bool) :=
 gd (0 ≤ i8_13) <|
 gd (i8_13 < ((a0.length : Nat) : Int)) <|
 gd (0 ≤ i5_2) <|
 gd (i5_2 < ((a0.length : Nat) : Int)) <|
 bif ((a0.getD (r15.getD i8_13.toNat 0) []) == (a0.getD (r15.getD i5_2.toNat 0) [])) then
 gd (okI .i64 (i7_53 + 1)) <|
 lSorts_j1 n a0 r9 r15 i5_2 i8_13 k_l2 i6_139 (i7_53 + 1)
 else
 lSorts_j1 n a0 r9 r15 i5_2 i8_13 k_l2 i6_139 i7_53
def lSorts_l2 (n : Nat) (a0 : List (List UInt8)) (r9 : Bool) (r15 : List Nat) (i5_2 : Int) (k_l1 : Int → Option (Bool)) : Nat → Int → Int → Int → Option (Bool)
 | 0, _, _, _ => none
 | fu_l2 + 1, i6_133, i7_53, i8_13 =>
 bif (decide (i8_13 < ((a0.length : Nat) : Int))) then
 gd (0 ≤ i8_13) <|
 gd (i8_13 < ((a0.length : Nat) : Int)) <|
 gd (0 ≤ i5_2) <|
 gd (i5_2 < ((a0.length : Nat) : Int)) <|
 bif ((a0.getD i8_13.toNat []) == (a0.getD (r15.getD i5_2.toNat 0) [])) then
 gd (okI .i64 (i6_133 + 1)) <|
 lSorts_j2 n a0 r9 r15 i5_2 i7_53 i8_13 (lSorts_l2 n a0 r9 r15 i5_2 k_l1 fu_l2) (i6_133 + 1)
 else
 lSorts_j2 n a0 r9 r15 i5_2 i7_53 i8_13 (lSorts_l2 n a0 r9 r15 i5_2 k_l1 fu_l2) i6_133
 else
 bif (i6_133 != i7_53) then
 some false
 else
 gd (okI .i64 (i5_2 + 1)) <|
 k_l1 (i5_2 + 1)
def lSorts_j3 (n : Nat) (a0 : List (List UInt8)) (r9 : Bool) (r15 : List Nat) (i5_2 : Int) (i8_14 : Int) (k_l3 : Int → Int → Int → Option (Bool)) (i6_148 : Int) (i7_59 : Int) : Option (Bool) :=
 gd (okI .i64 (i8_14 + 1)) <|
 k_l3 i6_148 i7_59 (i8_14 + 1)
def lSorts_j4 (n : Nat) (a0 : List (List UInt8)) (r9 : Bool) (r15 : List Nat) (i5_2 : Int) (i7_57 : Int) (i8_14 : Int) (k_l3 : Int → Int → Int → Option (Bool)) (i6_149 : Int) : Option (Bool) :=
 gd (0 ≤ i8_14) <|
 gd (i8_14 < ((a0.length : Nat) : Int)) <|
 gd (0 ≤ i5_2) <|
 gd (i5_2 < ((a0.length : Nat) : Int)) <|
 bif ((a0.getD (r15.getD i8_14.toNat 0) []) == (a0.getD (r15.getD i5_2.toNat 0) [])) then
 gd (okI .i64 (i7_57 + 1)) <|
 lSorts_j3 n a0 r9 r15 i5_2 i8_14 k_l3 i6_149 (i7_57 + 1)
 else
 lSorts_j3 n a0 r9 r15 i5_2 i8_14 k_l3 i6_149 i7_57
def lSorts_l3 (n : Nat) (a0 : List (List UInt8)) (r9 : Bool) (r15 : List Nat) (i5_2 : Int) (k_l1 : Int → Option (Bool)) : Nat → Int → Int → Int → Option (Bool)
 | 0, _, _, _ => none
 | fu_l3 + 1, i6_143, i7_57, i8_14 =>
 bif (decide (i8_14 < ((a0.length : Nat) : Int))) then
 gd (0 ≤ i8_14) <|
 gd (i8_14 < ((a0.length : Nat) : Int)) <|
 gd (0 ≤ i5_2) <|
 gd (i5_2 < ((a0.length : Nat) : Int)) <|
 bif ((a0.getD i8_14.toNat []) == (a0.getD (r15.getD i5_2.toNat 0) [])) then
 gd (okI .i64 (i6_143 + 1)) <|
 lSorts_j4 n a0 r9 r15 i5_2 i7_57 i8_14 (lSorts_l3 n a0 r9 r15 i5_2 k_l1 fu_l3) (i6_143 + 1)
 else
 lSorts_j4 n a0 r9 r15 i5_2 i7_57 i8_14 (lSorts_l3 n a0 r9 r15 i5_2 k_l1 fu_l3) i6_143
 else
 bif (i6_143 != i7_57) then
 some false
 else
 gd (okI .i64 (i5_2 + 1)) <|
 k_l1 (i5_2 + 1)
def lSorts_l1 (n : Nat) (a0 : List (List UInt8)) (r9 : Bool) (r15 : List Nat) : Nat → Int → Option (Bool)
 | 0, _ => none
 | fu_l1 + 1, i5_2 =>
 bif (decide (i5_2 < ((a0.length : Nat) : Int))) then
 bif (decide ((0 : Int) < i5_2)) then
 gd (okI .i64 (i5_2 - 1)) <|
 gd (0 ≤ (i5_2 - 1)) <|
 gd ((i5_2 - 1) < ((a0.length : Nat) : Int)) <|
 gd (0 ≤ i5_2) <|
 gd (i5_2 < ((a0.length : Nat) : Int)) <|
 bif (!(Op.bytesLess (a0.getD (r15.getD ((i5_2 - 1).toNat) 0) []) (a0.getD (r15.getD i5_2.toNat 0) []) || (a0.getD (r15.getD ((i5_2 - 1).toNat) 0) []) == (a0.getD (r15.getD i5_2.toNat 0) []))) then
 some false
 else
 lSorts_l2 n a0 r9 r15 i5_2 (lSorts_l1 n a0 r9 r15 fu_l1) n 0 0 0
 else
 lSorts_l3 n a0 r9 r15 i5_2 (lSorts_l1 n a0 r9 r15 fu_l1) n 0 0 0
 else
 some r9
def lSorts (n : Nat) (a0 : List (List UInt8)) : Option (Bool) :=
 (pup n).bind fun r9 =>
 bif (decide ((60 : Int) < ((a0.length : Nat) : Int))) then
  some r9
 else
  gd (a0.length ≤ 1000000000) <|
  (srSort n a0 (List.range a0.length)).bind fun r15 =>
  bif (((a0.length : Nat) : Int) != ((a0.length : Nat) : Int)) then
   some false
  else
   lSorts_l1 n a0 r9 r15 n 0
def lSorts_j1_E (a0 : List (List UInt8)) (r9 : Bool) (r15 : List Nat) (i5_2 : Int) (i8_13 : Int) (i6_138 : Int) (i7_55 : Int) : S := ⟨[(0, kH 0), (3, kB r9), (4, kH 1), (5, kI i5_2), (6, kI i6_138), (7, kI i7_55), (8, kI i8_13)], [], [⟨(.dp false), 22, 1, a0.length, .d (.by 5) a0⟩, ⟨.row, 22, 1, a0.length, .p 0 r15⟩]⟩
abbrev lSorts_j1_P (n : Nat) (a0 : List (List UInt8)) (r9 : Bool) (r15 : List Nat) (i5_2 : Int) (i8_13 : Int) (k_l2 : Int → Int → Int → Option (Bool)) (r : Bool) : S → Prop := fun s => ∃ (i6_138 : Int), ∃ (i7_55 : Int), s = lSorts_j1_E a0 r9 r15 i5_2 i8_13 i6_138 i7_55 ∧ lSorts_j1 n a0 r9 r15 i5_2 i8_13 k_l2 i6_138 i7_55 = some r
def lSorts_j2_E (a0 : List (List UInt8)) (r9 : Bool) (r15 : List Nat) (i5_2 : Int) (i7_53 : Int) (i8_13 : Int) (i6_139 : Int) : S := ⟨[(0, kH 0), (3, kB r9), (4, kH 1), (5, kI i5_2), (6, kI i6_139), (7, kI i7_53), (8, kI i8_13)], [], [⟨(.dp false), 22, 1, a0.length, .d (.by 5) a0⟩, ⟨.row, 22, 1, a0.length, .p 0 r15⟩]⟩
abbrev lSorts_j2_P (n : Nat) (a0 : List (List UInt8)) (r9 : Bool) (r15 : List Nat) (i5_2 : Int) (i7_53 : Int) (i8_13 : Int) (k_l2 : Int → Int → Int → Option (Bool)) (r : Bool) : S → Prop := fun s => ∃ (i6_139 : Int), s = lSorts_j2_E a0 r9 r15 i5_2 i7_53 i8_13 i6_139 ∧ lSorts_j2 n a0 r9 r15 i5_2 i7_53 i8_13 k_l2 i6_139 = some r
def lSorts_l2_E (a0 : List (List UInt8)) (r9 : Bool) (r15 : List Nat) (i5_2 : Int) (i6_133 : Int) (i7_53 : Int) (i8_13 : Int) : S := ⟨[(0, kH 0), (3, kB r9), (4, kH 1), (5, kI i5_2), (6, kI i6_133), (7, kI i7_53), (8, kI i8_13)], [], [⟨(.dp false), 22, 1, a0.length, .d (.by 5) a0⟩, ⟨.row, 22, 1, a0.length, .p 0 r15⟩]⟩
abbrev lSorts_l2_P (n : Nat) (a0 : List (List UInt8)) (r9 : Bool) (r15 : List Nat) (i5_2 : Int) (k_l1 : Int → Option (Bool)) (r : Bool) (fu : Nat) : S → Prop := fun s => ∃ (i6_133 : Int), ∃ (i7_53 : Int), ∃ (i8_13 : Int), s = lSorts_l2_E a0 r9 r15 i5_2 i6_133 i7_53 i8_13 ∧ lSorts_l2 n a0 r9 r15 i5_2 k_l1 fu i6_133 i7_53 i8_13 = some r
def lSorts_j3_E (a0 : List (List UInt8)) (r9 : Bool) (r15 : List Nat) (i5_2 : Int) (i8_14 : Int) (i6_148 : Int) (i7_59 : Int) : S := ⟨[(0, kH 0), (3, kB r9), (4, kH 1), (5, kI i5_2), (6, kI i6_148), (7, kI i7_59), (8, kI i8_14)], [], [⟨(.dp false), 22, 1, a0.length, .d (.by 5) a0⟩, ⟨.row, 22, 1, a0.length, .p 0 r15⟩]⟩
abbrev lSorts_j3_P (n : Nat) (a0 : List (List UInt8)) (r9 : Bool) (r15 : List Nat) (i5_2 : Int) (i8_14 : Int) (k_l3 : Int → Int → Int → Option (Bool)) (r : Bool) : S → Prop := fun s => ∃ (i6_148 : Int), ∃ (i7_59 : Int), s = lSorts_j3_E a0 r9 r15 i5_2 i8_14 i6_148 i7_59 ∧ lSorts_j3 n a0 r9 r15 i5_2 i8_14 k_l3 i6_148 i7_59 = some r
def lSorts_j4_E (a0 : List (List UInt8)) (r9 : Bool) (r15 : List Nat) (i5_2 : Int) (i7_57 : Int) (i8_14 : Int) (i6_149 : Int) : S := ⟨[(0, kH 0), (3, kB r9), (4, kH 1), (5, kI i5_2), (6, kI i6_149), (7, kI i7_57), (8, kI i8_14)], [], [⟨(.dp false), 22, 1, a0.length, .d (.by 5) a0⟩, ⟨.row, 22, 1, a0.length, .p 0 r15⟩]⟩
abbrev lSorts_j4_P (n : Nat) (a0 : List (List UInt8)) (r9 : Bool) (r15 : List Nat) (i5_2 : Int) (i7_57 : Int) (i8_14 : Int) (k_l3 : Int → Int → Int → Option (Bool)) (r : Bool) : S → Prop := fun s => ∃ (i6_149 : Int), s = lSorts_j4_E a0 r9 r15 i5_2 i7_57 i8_14 i6_149 ∧ lSorts_j4 n a0 r9 r15 i5_2 i7_57 i8_14 k_l3 i6_149 = some r
def lSorts_l3_E (a0 : List (List UInt8)) (r9 : Bool) (r15 : List Nat) (i5_2 : Int) (i6_143 : Int) (i7_57 : Int) (i8_14 : Int) : S := ⟨[(0, kH 0), (3, kB r9), (4, kH 1), (5, kI i5_2), (6, kI i6_143), (7, kI i7_57), (8, kI i8_14)], [], [⟨(.dp false), 22, 1, a0.length, .d (.by 5) a0⟩, ⟨.row, 22, 1, a0.length, .p 0 r15⟩]⟩
abbrev lSorts_l3_P (n : Nat) (a0 : List (List UInt8)) (r9 : Bool) (r15 : List Nat) (i5_2 : Int) (k_l1 : Int → Option (Bool)) (r : Bool) (fu : Nat) : S → Prop := fun s => ∃ (i6_143 : Int), ∃ (i7_57 : Int), ∃ (i8_14 : Int), s = lSorts_l3_E a0 r9 r15 i5_2 i6_143 i7_57 i8_14 ∧ lSorts_l3 n a0 r9 r15 i5_2 k_l1 fu i6_143 i7_57 i8_14 = some r
def lSorts_l1_E (a0 : List (List UInt8)) (r9 : Bool) (r15 : List Nat) (i5_2 : Int) : S := ⟨[(0, kH 0), (3, kB r9), (4, kH 1), (5, kI i5_2)], [], [⟨(.dp false), 22, 1, a0.length, .d (.by 5) a0⟩, ⟨.row, 22, 1, a0.length, .p 0 r15⟩]⟩
abbrev lSorts_l1_P (n : Nat) (a0 : List (List UInt8)) (r9 : Bool) (r15 : List Nat) (r : Bool) (fu : Nat) : S → Prop := fun s => ∃ (i5_2 : Int), s = lSorts_l1_E a0 r9 r15 i5_2 ∧ lSorts_l1 n a0 r9 r15 fu i5_2 = some r
def lSorts_R (r : Bool) : S := ⟨[(2, kB r)], [], []⟩
def lSorts_ct (n : Nat) (r : Bool) : Ct := ctc (rD 22 (.by 5)).rd fun _ l0 => ct0 fun H => ([lSorts n l0 = some r], shA H.length (kB r), shH H.length [])
theorem lSorts_ok (n : Nat) (r : Bool) : FnOk Try.prog Tr 11 (lSorts_ct n r) := by
 refine fnok Try.func11 ?_
 refine HO_c (rD 22 (.by 5)) fun (l0 : List (List UInt8)) _ => HO_0 tabO_psc (lSorts_R r) [.tmp 2] [] 79 Try.func11 fun w hG h => ?_
 unfold lSorts at h
 have hT := tabO_psc
 refine Vrs hT [0] ⟨[(0, kH 0)], [], [⟨(.dp false), 22, 1, l0.length, .d (.by 5) l0⟩]⟩ ?_
 obtain ⟨r9, g1, h⟩ := bind_some' h
 refine Vgs hT (fT 0 (pup_ok n r9) fN) [] [] [0] ⟨[(0, kH 0), (3, kB r9)], [], [⟨(.dp false), 22, 1, l0.length, .d (.by 5) l0⟩]⟩ (aP g1 aN) ?_
 refine W_seq ?_
 refine Vrs hT [0] ⟨[(0, kH 0), (3, kB r9), (12, kB (decide ((60 : Int) < ((l0.length : Nat) : Int))))], [], [⟨(.dp false), 22, 1, l0.length, .d (.by 5) l0⟩]⟩ ?_
 refine Vi ((decide ((60 : Int) < ((l0.length : Nat) : Int)))) (fun g45 => ?_) (fun g45 => ?_)
 ·replace h := bif_t h g45
  refine Vrs hT [] ⟨[(2, kB r9)], [], []⟩ ?_
  refine Vc [] [] (lSorts_R r9) (W_ret ?_)
  exact ⟨.inl rfl, by cases h; rfl⟩
 ·replace h := bif_f h g45
  refine W_skip ?_
  obtain ⟨g2, h⟩ := gd_some h
  obtain ⟨r15, g3, h⟩ := bind_some' h
  refine Vgs hT (fT 1 (sorted_h n r15) fN) [] [] [0, 1] ⟨[(0, kH 0), (3, kB r9), (4, kH 1)], [], [⟨(.dp false), 22, 1, l0.length, .d (.by 5) l0⟩, ⟨.row, 22, 1, l0.length, .p 0 r15⟩]⟩ (aP g2 (aP g3 aN)) ?_
  refine W_seq ?_
  refine Vrs hT [0, 1] ⟨[(0, kH 0), (3, kB r9), (4, kH 1), (20, kB (((l0.length : Nat) : Int) != ((l0.length : Nat) : Int)))], [], [⟨(.dp false), 22, 1, l0.length, .d (.by 5) l0⟩, ⟨.row, 22, 1, l0.length, .p 0 r15⟩]⟩ ?_
  refine Vi ((((l0.length : Nat) : Int) != ((l0.length : Nat) : Int))) (fun g44 => ?_) (fun g44 => ?_)
  ·replace h := bif_t h g44
   refine Vrs hT [] ⟨[(2, kB false)], [], []⟩ ?_
   refine Vc [] [] (lSorts_R false) (W_ret ?_)
   exact ⟨.inl rfl, by cases h; rfl⟩
  ·replace h := bif_f h g44
   refine W_skip ?_
   refine W_seq ?_
   refine Vrs hT [0, 1] ⟨[(0, kH 0), (3, kB r9), (4, kH 1), (5, kI 0)], [], [⟨(.dp false), 22, 1, l0.length, .d (.by 5) l0⟩, ⟨.row, 22, 1, l0.length, .p 0 r15⟩]⟩ ?_
   refine W_block ?_
   refine Vc [] [0, 1] (lSorts_l1_E l0 r9 r15 0) (W_lp ((lSorts_l1_P n l0 r9 r15 r)) n ⟨_, rfl, h⟩ ?_)
   rintro fu_l1 _ ⟨i5_2, rfl, h⟩
   cases fu_l1 with
   | zero => cases h
   | succ fu_l1 =>
    refine ⟨fu_l1, rfl, ?_⟩
    rw [lSorts_l1] at h
    refine W_seq ?_
    refine Vrs hT [0, 1] ⟨[(0, kH 0), (3, kB r9), (4, kH 1), (5, kI i5_2), (24, kB (decide (i5_2 < ((l0.length : Nat) : Int))))], [], [⟨(.dp false), 22, 1, l0.length, .d (.by 5) l0⟩, ⟨.row, 22, 1, l0.length, .p 0 r15⟩]⟩ ?_
    refine Vi ((decide (i5_2 < ((l0.length : Nat) : Int)))) (fun g43 => ?_) (fun g43 => ?_)
    ·replace h := bif_t h g43
     refine Vc [] [0, 1] ⟨[(0, kH 0), (3, kB r9), (4, kH 1), (5, kI i5_2)], [], [⟨(.dp false), 22, 1, l0.length, .d (.by 5) l0⟩, ⟨.row, 22, 1, l0.length, .p 0 r15⟩]⟩ (W_skip ?_)
     refine W_seq ?_
     refine W_block ?_
     refine W_seq ?_
     refine W_seq ?_
     rcases Bool.eq_false_or_eq_true (decide ((0 : Int) < i5_2)) with g4 | g4
     ·replace h := bif_t h g4
      obtain ⟨g5, g6, g7, g8, g9, h⟩ := gd5 h
      refine Vd hT fN 14 [(2, true)] [(0, false), (3, false), (4, false), (5, false), (29, false), (35, false), (40, false)] [] [0, 1] ⟨[(0, kH 0), (3, kB r9), (4, kH 1), (5, kI i5_2), (42, kB (!(Op.bytesLess (l0.getD (r15.getD ((i5_2 - 1).toNat) 0) []) (l0.getD (r15.getD i5_2.toNat 0) []) || (l0.getD (r15.getD ((i5_2 - 1).toNat) 0) []) == (l0.getD (r15.getD i5_2.toNat 0) []))))], [], [⟨(.dp false), 22, 1, l0.length, .d (.by 5) l0⟩, ⟨.row, 22, 1, l0.length, .p 0 r15⟩]⟩ (aP g4 (aP g5 (aP g6 (aP g7 (aP g8 (aP g9 aN)))))) ?_
      refine Vi ((!(Op.bytesLess (l0.getD (r15.getD ((i5_2 - 1).toNat) 0) []) (l0.getD (r15.getD i5_2.toNat 0) []) || (l0.getD (r15.getD ((i5_2 - 1).toNat) 0) []) == (l0.getD (r15.getD i5_2.toNat 0) [])))) (fun g26 => ?_) (fun g26 => ?_)
      ·replace h := bif_t h g26
       refine Vrs hT [] ⟨[(2, kB false)], [], []⟩ ?_
       refine Vc [] [] (lSorts_R false) (W_ret ?_)
       exact ⟨.inl rfl, by cases h; rfl⟩
      ·replace h := bif_f h g26
       refine W_skip ?_
       refine Vrs hT [0, 1] ⟨[(0, kH 0), (3, kB r9), (4, kH 1), (5, kI i5_2), (6, kI 0)], [], [⟨(.dp false), 22, 1, l0.length, .d (.by 5) l0⟩, ⟨.row, 22, 1, l0.length, .p 0 r15⟩]⟩ ?_
       refine Vrs hT [0, 1] ⟨[(0, kH 0), (3, kB r9), (4, kH 1), (5, kI i5_2), (6, kI 0), (7, kI 0)], [], [⟨(.dp false), 22, 1, l0.length, .d (.by 5) l0⟩, ⟨.row, 22, 1, l0.length, .p 0 r15⟩]⟩ ?_
       refine W_seq ?_
       refine Vrs hT [0, 1] ⟨[(0, kH 0), (3, kB r9), (4, kH 1), (5, kI i5_2), (6, kI 0), (7, kI 0), (8, kI 0)], [], [⟨(.dp false), 22, 1, l0.length, .d (.by 5) l0⟩, ⟨.row, 22, 1, l0.length, .p 0 r15⟩]⟩ ?_
       refine W_block ?_
       refine Vc [] [0, 1] (lSorts_l2_E l0 r9 r15 i5_2 0 0 0) (W_lp ((lSorts_l2_P n l0 r9 r15 i5_2 (lSorts_l1 n l0 r9 r15 fu_l1) r)) n ⟨_, _, _, rfl, h⟩ ?_)
       rintro fu_l2 _ ⟨i6_133, i7_53, i8_13, rfl, h⟩
       cases fu_l2 with
       | zero => cases h
       | succ fu_l2 =>
        refine ⟨fu_l2, rfl, ?_⟩
        rw [lSorts_l2] at h
        refine W_seq ?_
        refine Vrs hT [0, 1] ⟨[(0, kH 0), (3, kB r9), (4, kH 1), (5, kI i5_2), (6, kI i6_133), (7, kI i7_53), (8, kI i8_13), (46, kB (decide (i8_13 < ((l0.length : Nat) : Int))))], [], [⟨(.dp false), 22, 1, l0.length, .d (.by 5) l0⟩, ⟨.row, 22, 1, l0.length, .p 0 r15⟩]⟩ ?_
        refine Vi ((decide (i8_13 < ((l0.length : Nat) : Int)))) (fun g25 => ?_) (fun g25 => ?_)
        ·replace h := bif_t h g25
         refine Vc [] [0, 1] ⟨[(0, kH 0), (3, kB r9), (4, kH 1), (5, kI i5_2), (6, kI i6_133), (7, kI i7_53), (8, kI i8_13)], [], [⟨(.dp false), 22, 1, l0.length, .d (.by 5) l0⟩, ⟨.row, 22, 1, l0.length, .p 0 r15⟩]⟩ (W_skip ?_)
         refine W_join (lSorts_j1_P n l0 r9 r15 i5_2 i8_13 (lSorts_l2 n l0 r9 r15 i5_2 (lSorts_l1 n l0 r9 r15 fu_l1) fu_l2) r) ?_ ?_
         ·rintro _ ⟨i6_138, i7_55, rfl, h⟩
          unfold lSorts_j1 at h
          obtain ⟨g10, h⟩ := gd_some h
          refine Vg hT fN [] [] [0, 1] (lSorts_l2_E l0 r9 r15 i5_2 i6_138 i7_55 (i8_13 + 1)) (aP g10 aN) ?_
          exact ⟨_, _, _, rfl, h⟩
         ·refine W_block ?_
          refine W_join (lSorts_j2_P n l0 r9 r15 i5_2 i7_53 i8_13 (lSorts_l2 n l0 r9 r15 i5_2 (lSorts_l1 n l0 r9 r15 fu_l1) fu_l2) r) ?_ ?_
          ·rintro _ ⟨i6_139, rfl, h⟩
           unfold lSorts_j2 at h
           obtain ⟨g11, g12, g13, g14, h⟩ := gd4 h
           refine Vds hT fN 10 [] [(0, false), (3, false), (4, false), (5, false), (6, false), (7, false), (8, false), (66, false), (71, false)] [] [0, 1] ⟨[(0, kH 0), (3, kB r9), (4, kH 1), (5, kI i5_2), (6, kI i6_139), (7, kI i7_53), (8, kI i8_13), (72, kB ((l0.getD (r15.getD i8_13.toNat 0) []) == (l0.getD (r15.getD i5_2.toNat 0) [])))], [], [⟨(.dp false), 22, 1, l0.length, .d (.by 5) l0⟩, ⟨.row, 22, 1, l0.length, .p 0 r15⟩]⟩ (aP g11 (aP g12 (aP g13 (aP g14 aN)))) ?_
           refine Vi (((l0.getD (r15.getD i8_13.toNat 0) []) == (l0.getD (r15.getD i5_2.toNat 0) []))) (fun g16 => ?_) (fun g16 => ?_)
           ·replace h := bif_t h g16
            obtain ⟨g15, h⟩ := gd_some h
            refine Vg hT fN [] [] [0, 1] (lSorts_j1_E l0 r9 r15 i5_2 i8_13 i6_139 (i7_53 + 1)) (aP g15 aN) ?_
            exact ⟨_, _, rfl, h⟩
           ·replace h := bif_f h g16
            refine Vc [] [0, 1] (lSorts_j1_E l0 r9 r15 i5_2 i8_13 i6_139 i7_53) (W_skip ?_)
            exact ⟨_, _, rfl, h⟩
          ·refine W_seq ?_
           obtain ⟨g17, g18, g19, g20, h⟩ := gd4 h
           refine Vd hT fN 10 [] [(0, false), (3, false), (4, false), (5, false), (6, false), (7, false), (8, false), (53, false), (58, false)] [] [0, 1] ⟨[(0, kH 0), (3, kB r9), (4, kH 1), (5, kI i5_2), (6, kI i6_133), (7, kI i7_53), (8, kI i8_13), (59, kB ((l0.getD i8_13.toNat []) == (l0.getD (r15.getD i5_2.toNat 0) [])))], [], [⟨(.dp false), 22, 1, l0.length, .d (.by 5) l0⟩, ⟨.row, 22, 1, l0.length, .p 0 r15⟩]⟩ (aP g17 (aP g18 (aP g19 (aP g20 aN)))) ?_
           refine Vi (((l0.getD i8_13.toNat []) == (l0.getD (r15.getD i5_2.toNat 0) []))) (fun g22 => ?_) (fun g22 => ?_)
           ·replace h := bif_t h g22
            obtain ⟨g21, h⟩ := gd_some h
            refine Vg hT fN [] [] [0, 1] (lSorts_j2_E l0 r9 r15 i5_2 i7_53 i8_13 (i6_133 + 1)) (aP g21 aN) ?_
            exact ⟨_, rfl, h⟩
           ·replace h := bif_f h g22
            refine Vc [] [0, 1] (lSorts_j2_E l0 r9 r15 i5_2 i7_53 i8_13 i6_133) (W_skip ?_)
            exact ⟨_, rfl, h⟩
        ·replace h := bif_f h g25
         refine Vc [] [0, 1] ⟨[(0, kH 0), (3, kB r9), (4, kH 1), (5, kI i5_2), (6, kI i6_133), (7, kI i7_53)], [], [⟨(.dp false), 22, 1, l0.length, .d (.by 5) l0⟩, ⟨.row, 22, 1, l0.length, .p 0 r15⟩]⟩ (W_exit ?_)
         refine Vrs hT [0, 1] ⟨[(0, kH 0), (3, kB r9), (4, kH 1), (5, kI i5_2), (77, kB (i6_133 != i7_53))], [], [⟨(.dp false), 22, 1, l0.length, .d (.by 5) l0⟩, ⟨.row, 22, 1, l0.length, .p 0 r15⟩]⟩ ?_
         refine Vi ((i6_133 != i7_53)) (fun g24 => ?_) (fun g24 => ?_)
         ·replace h := bif_t h g24
          refine Vrs hT [] ⟨[(2, kB false)], [], []⟩ ?_
          refine Vc [] [] (lSorts_R false) (W_ret ?_)
          exact ⟨.inl rfl, by cases h; rfl⟩
         ·replace h := bif_f h g24
          refine W_skip ?_
          obtain ⟨g23, h⟩ := gd_some h
          refine Vg hT fN [] [] [0, 1] (lSorts_l1_E l0 r9 r15 (i5_2 + 1)) (aP g23 aN) ?_
          exact ⟨_, rfl, h⟩
     ·replace h := bif_f h g4
      refine Vd hT fN 14 [(2, false)] [(0, false), (3, false), (4, false), (5, false), (29, false), (35, false), (40, false)] [] [0, 1] ⟨[(0, kH 0), (3, kB r9), (4, kH 1), (5, kI i5_2), (42, kB false)], [], [⟨(.dp false), 22, 1, l0.length, .d (.by 5) l0⟩, ⟨.row, 22, 1, l0.length, .p 0 r15⟩]⟩ (aP g4 aN) ?_
      refine Vi (false) (fun hb => by cases hb) (fun _ => ?_)
      refine W_skip ?_
      refine Vrs hT [0, 1] ⟨[(0, kH 0), (3, kB r9), (4, kH 1), (5, kI i5_2), (6, kI 0)], [], [⟨(.dp false), 22, 1, l0.length, .d (.by 5) l0⟩, ⟨.row, 22, 1, l0.length, .p 0 r15⟩]⟩ ?_
      refine Vrs hT [0, 1] ⟨[(0, kH 0), (3, kB r9), (4, kH 1), (5, kI i5_2), (6, kI 0), (7, kI 0)], [], [⟨(.dp false), 22, 1, l0.length, .d (.by 5) l0⟩, ⟨.row, 22, 1, l0.length, .p 0 r15⟩]⟩ ?_
      refine W_seq ?_
      refine Vrs hT [0, 1] ⟨[(0, kH 0), (3, kB r9), (4, kH 1), (5, kI i5_2), (6, kI 0), (7, kI 0), (8, kI 0)], [], [⟨(.dp false), 22, 1, l0.length, .d (.by 5) l0⟩, ⟨.row, 22, 1, l0.length, .p 0 r15⟩]⟩ ?_
      refine W_block ?_
      refine Vc [] [0, 1] (lSorts_l3_E l0 r9 r15 i5_2 0 0 0) (W_lp ((lSorts_l3_P n l0 r9 r15 i5_2 (lSorts_l1 n l0 r9 r15 fu_l1) r)) n ⟨_, _, _, rfl, h⟩ ?_)
      rintro fu_l3 _ ⟨i6_143, i7_57, i8_14, rfl, h⟩
      cases fu_l3 with
      | zero => cases h
      | succ fu_l3 =>
       refine ⟨fu_l3, rfl, ?_⟩
       rw [lSorts_l3] at h
       refine W_seq ?_
       refine Vrs hT [0, 1] ⟨[(0, kH 0), (3, kB r9), (4, kH 1), (5, kI i5_2), (6, kI i6_143), (7, kI i7_57), (8, kI i8_14), (46, kB (decide (i8_14 < ((l0.length : Nat) : Int))))], [], [⟨(.dp false), 22, 1, l0.length, .d (.by 5) l0⟩, ⟨.row, 22, 1, l0.length, .p 0 r15⟩]⟩ ?_
       refine Vi ((decide (i8_14 < ((l0.length : Nat) : Int)))) (fun g42 => ?_) (fun g42 => ?_)
       ·replace h := bif_t h g42
        refine Vc [] [0, 1] ⟨[(0, kH 0), (3, kB r9), (4, kH 1), (5, kI i5_2), (6, kI i6_143), (7, kI i7_57), (8, kI i8_14)], [], [⟨(.dp false), 22, 1, l0.length, .d (.by 5) l0⟩, ⟨.row, 22, 1, l0.length, .p 0 r15⟩]⟩ (W_skip ?_)
        refine W_join (lSorts_j3_P n l0 r9 r15 i5_2 i8_14 (lSorts_l3 n l0 r9 r15 i5_2 (lSorts_l1 n l0 r9 r15 fu_l1) fu_l3) r) ?_ ?_
        ·rintro _ ⟨i6_148, i7_59, rfl, h⟩
         unfold lSorts_j3 at h
         obtain ⟨g27, h⟩ := gd_some h
         refine Vg hT fN [] [] [0, 1] (lSorts_l3_E l0 r9 r15 i5_2 i6_148 i7_59 (i8_14 + 1)) (aP g27 aN) ?_
         exact ⟨_, _, _, rfl, h⟩
        ·refine W_block ?_
         refine W_join (lSorts_j4_P n l0 r9 r15 i5_2 i7_57 i8_14 (lSorts_l3 n l0 r9 r15 i5_2 (lSorts_l1 n l0 r9 r15 fu_l1) fu_l3) r) ?_ ?_
         ·rintro _ ⟨i6_149, rfl, h⟩
          unfold lSorts_j4 at h
          obtain ⟨g28, g29, g30, g31, h⟩ := gd4 h
          refine Vds hT fN 10 [] [(0, false), (3, false), (4, false), (5, false), (6, false), (7, false), (8, false), (66, false), (71, false)] [] [0, 1] ⟨[(0, kH 0), (3, kB r9), (4, kH 1), (5, kI i5_2), (6, kI i6_149), (7, kI i7_57), (8, kI i8_14), (72, kB ((l0.getD (r15.getD i8_14.toNat 0) []) == (l0.getD (r15.getD i5_2.toNat 0) [])))], [], [⟨(.dp false), 22, 1, l0.length, .d (.by 5) l0⟩, ⟨.row, 22, 1, l0.length, .p 0 r15⟩]⟩ (aP g28 (aP g29 (aP g30 (aP g31 aN)))) ?_
          refine Vi (((l0.getD (r15.getD i8_14.toNat 0) []) == (l0.getD (r15.getD i5_2.toNat 0) []))) (fun g33 => ?_) (fun g33 => ?_)
          ·replace h := bif_t h g33
           obtain ⟨g32, h⟩ := gd_some h
           refine Vg hT fN [] [] [0, 1] (lSorts_j3_E l0 r9 r15 i5_2 i8_14 i6_149 (i7_57 + 1)) (aP g32 aN) ?_
           exact ⟨_, _, rfl, h⟩
          ·replace h := bif_f h g33
           refine Vc [] [0, 1] (lSorts_j3_E l0 r9 r15 i5_2 i8_14 i6_149 i7_57) (W_skip ?_)
           exact ⟨_, _, rfl, h⟩
         ·refine W_seq ?_
          obtain ⟨g34, g35, g36, g37, h⟩ := gd4 h
          refine Vd hT fN 10 [] [(0, false), (3, false), (4, false), (5, false), (6, false), (7, false), (8, false), (53, false), (58, false)] [] [0, 1] ⟨[(0, kH 0), (3, kB r9), (4, kH 1), (5, kI i5_2), (6, kI i6_143), (7, kI i7_57), (8, kI i8_14), (59, kB ((l0.getD i8_14.toNat []) == (l0.getD (r15.getD i5_2.toNat 0) [])))], [], [⟨(.dp false), 22, 1, l0.length, .d (.by 5) l0⟩, ⟨.row, 22, 1, l0.length, .p 0 r15⟩]⟩ (aP g34 (aP g35 (aP g36 (aP g37 aN)))) ?_
          refine Vi (((l0.getD i8_14.toNat []) == (l0.getD (r15.getD i5_2.toNat 0) []))) (fun g39 => ?_) (fun g39 => ?_)
          ·replace h := bif_t h g39
           obtain ⟨g38, h⟩ := gd_some h
           refine Vg hT fN [] [] [0, 1] (lSorts_j4_E l0 r9 r15 i5_2 i7_57 i8_14 (i6_143 + 1)) (aP g38 aN) ?_
           exact ⟨_, rfl, h⟩
          ·replace h := bif_f h g39
           refine Vc [] [0, 1] (lSorts_j4_E l0 r9 r15 i5_2 i7_57 i8_14 i6_143) (W_skip ?_)
           exact ⟨_, rfl, h⟩
       ·replace h := bif_f h g42
        refine Vc [] [0, 1] ⟨[(0, kH 0), (3, kB r9), (4, kH 1), (5, kI i5_2), (6, kI i6_143), (7, kI i7_57)], [], [⟨(.dp false), 22, 1, l0.length, .d (.by 5) l0⟩, ⟨.row, 22, 1, l0.length, .p 0 r15⟩]⟩ (W_exit ?_)
        refine Vrs hT [0, 1] ⟨[(0, kH 0), (3, kB r9), (4, kH 1), (5, kI i5_2), (77, kB (i6_143 != i7_57))], [], [⟨(.dp false), 22, 1, l0.length, .d (.by 5) l0⟩, ⟨.row, 22, 1, l0.length, .p 0 r15⟩]⟩ ?_
        refine Vi ((i6_143 != i7_57)) (fun g41 => ?_) (fun g41 => ?_)
        ·replace h := bif_t h g41
         refine Vrs hT [] ⟨[(2, kB false)], [], []⟩ ?_
         refine Vc [] [] (lSorts_R false) (W_ret ?_)
         exact ⟨.inl rfl, by cases h; rfl⟩
        ·replace h := bif_f h g41
         refine W_skip ?_
         obtain ⟨g40, h⟩ := gd_some h
         refine Vg hT fN [] [] [0, 1] (lSorts_l1_E l0 r9 r15 (i5_2 + 1)) (aP g40 aN) ?_
         exact ⟨_, rfl, h⟩
    ·replace h := bif_f h g43
     refine Vc [] [] ⟨[(3, kB r9)], [], []⟩ (W_exit ?_)
     refine Vrs hT [] ⟨[(2, kB r9)], [], []⟩ ?_
     refine Vc [] [] (lSorts_R r9) (W_ret ?_)
     exact ⟨.inl rfl, by cases h; rfl⟩
end Go.Proofs.Ytliilihbnhdemaa
end
section
namespace Go.Sx
open Go Go.RowKit Go.Ch Go.Proofs.Ytliilihbnhdemaa
theorem cmp_less' : ∀ a b : List UInt8, decide (Lib.compareBytes a b < (0 : Int)) = Op.bytesLess a b
 | [], [] => rfl
 | [], _ :: _ => by simp [Lib.compareBytes, Op.bytesLess]
 | _ :: _, [] => by simp [Lib.compareBytes, Op.bytesLess]
 | x :: a, y :: b => by
  have ih := cmp_less' a b
  unfold Lib.compareBytes Op.bytesLess
  by_cases h : x < y
  ·simp [h]
  ·by_cases h2 : y < x
   ·have : x ≠ y := fun e => UInt8.lt_irrefl y (by rw [e] at h2; exact h2)
    simp [h, h2, this]
   ·have : x = y := by
     have h3 := UInt8.not_lt.1 h
     have h4 := UInt8.not_lt.1 h2
     exact UInt8.le_antisymm h4 h3
    simp [h, this, ih]
theorem bl_cons (x y : UInt8) (a b : List UInt8) : Op.bytesLess (x :: a) (y :: b) = (decide (x.toNat < y.toNat) || (decide (x.toNat = y.toNat) && Op.bytesLess a b)) := by
 conv => lhs; unfold Op.bytesLess
 by_cases h : x.toNat < y.toNat
 ·have : x < y := UInt8.lt_iff_toNat_lt.2 h
  simp [this, h]
 ·have h1 : ¬ x < y := fun e => h (UInt8.lt_iff_toNat_lt.1 e)
  by_cases h2 : x = y
  ·subst h2; simp
  ·have h3 : x.toNat ≠ y.toNat := fun e => h2 (UInt8.toNat_inj.1 e)
   simp [h1, h2, h, h3]
theorem bl_irr : ∀ a : List UInt8, Op.bytesLess a a = false
 | [] => rfl
 | x :: a => by rw [bl_cons, bl_irr a]; simp
theorem bl_tr : ∀ a b c : List UInt8, Op.bytesLess b a = false → Op.bytesLess c b = false → Op.bytesLess c a = false
 | [], _, c, _, _ => by cases c <;> rfl
 | x :: a, [], c, h, _ => by simp [Op.bytesLess] at h
 | x :: a, y :: b, [], _, h => by simp [Op.bytesLess] at h
 | x :: a, y :: b, z :: c, h1, h2 => by
  rw [bl_cons] at h1 h2 ⊢
  simp only [Bool.or_eq_false_iff, Bool.and_eq_false_iff, decide_eq_false_iff_not] at h1 h2 ⊢
  refine ⟨by omega, ?_⟩
  by_cases e : z.toNat = x.toNat
  ·right
   have e1 : y.toNat = x.toNat := by omega
   have e2 : z.toNat = y.toNat := by omega
   exact bl_tr a b c (h1.2.resolve_left fun h => h e1) (h2.2.resolve_left fun h => h e2)
  ·exact .inl e
theorem bl_as : ∀ {a b : List UInt8}, Op.bytesLess a b = true → Op.bytesLess b a = false
 | [], [], h => by cases h
 | [], _ :: _, _ => rfl
 | _ :: _, [], h => by simp [Op.bytesLess] at h
 | x :: a, y :: b, h => by
  rw [bl_cons] at h ⊢
  simp only [Bool.or_eq_true, Bool.and_eq_true, decide_eq_true_eq] at h
  simp only [Bool.or_eq_false_iff, Bool.and_eq_false_iff, decide_eq_false_iff_not]
  rcases h with h | ⟨h, h2⟩
  ·exact ⟨by omega, .inl (by omega)⟩
  ·exact ⟨by omega, .inr (bl_as h2)⟩
theorem bl_eq : ∀ {a b : List UInt8}, Op.bytesLess a b = false → Op.bytesLess b a = false → a = b
 | [], [], _, _ => rfl
 | [], _ :: _, h, _ => by simp [Op.bytesLess] at h
 | _ :: _, [], _, h => by simp [Op.bytesLess] at h
 | x :: a, y :: b, h1, h2 => by
  rw [bl_cons] at h1 h2
  simp only [Bool.or_eq_false_iff, Bool.and_eq_false_iff, decide_eq_false_iff_not] at h1 h2
  have e : x.toNat = y.toNat := by omega
  have e2 := bl_eq (h1.2.resolve_left fun h => h e) (h2.2.resolve_left fun h => h e.symm)
  rw [UInt8.toNat_inj.1 e, e2]
def ltl (l : List (List UInt8)) (i j : Nat) : Bool := Op.bytesLess (l.getD i []) (l.getD j [])
theorem cmp_ltl (l : List (List UInt8)) (i j : Nat) : decide (Lib.compareBytes (l.getD i []) (l.getD j []) < (0 : Int)) = ltl l i j := cmp_less' _ _
def Sr (l : List (List UInt8)) (xs : List Nat) : Prop := xs.Pairwise fun x y => ltl l y x = false
theorem ltl_tr {l : List (List UInt8)} {a b c : Nat} (h1 : ltl l b a = false) (h2 : ltl l c b = false) : ltl l c a = false := bl_tr _ _ _ h1 h2
theorem ltl_as {l : List (List UInt8)} {a b : Nat} (h : ltl l a b = true) : ltl l b a = false := bl_as h
theorem get_mid (pre t : List Nat) (x : Nat) {p : Nat} (h : p = pre.length) : (pre ++ x :: t).getD p 0 = x := by
 subst h
 rw [List.getD_eq_getElem?_getD, List.getElem?_append_right (Nat.le_refl _), Nat.sub_self]; rfl
theorem set_mid (pre t : List Nat) (x y : Nat) {p : Nat} (h : p = pre.length) : (pre ++ x :: t).set p y = pre ++ y :: t := by
 subst h
 rw [List.set_append_right _ _ (Nat.le_refl _), Nat.sub_self]; rfl
theorem swp2 {pre mid post : List Nat} {x y p q : Nat} (hp : p = pre.length) (hq : q = pre.length + 1 + mid.length) :
  (((pre ++ x :: (mid ++ y :: post)).set p ((pre ++ x :: (mid ++ y :: post)).getD q 0)).set q ((pre ++ x :: (mid ++ y :: post)).getD p 0)) = pre ++ y :: (mid ++ x :: post) := by
 have e : ∀ z : Nat, ∀ t : List Nat, pre ++ z :: (mid ++ t) = (pre ++ z :: mid) ++ t := fun z t => by simp
 have hl : ∀ z : Nat, q = (pre ++ z :: mid).length := fun z => by simp; omega
 rw [get_mid pre _ x hp, set_mid pre _ x _ hp]
 rw [e x, get_mid (pre ++ x :: mid) post y (hl x)]
 rw [e y, set_mid (pre ++ y :: mid) post y x (hl y), ← e y]
theorem swp2' {pre mid post : List Nat} {x y p q : Nat} (hp : p = pre.length) (hq : q = pre.length + 1 + mid.length) :
  (((pre ++ x :: (mid ++ y :: post)).set q ((pre ++ x :: (mid ++ y :: post)).getD p 0)).set p ((pre ++ x :: (mid ++ y :: post)).getD q 0)) = pre ++ y :: (mid ++ x :: post) := by
 have e : ∀ z : Nat, ∀ t : List Nat, pre ++ z :: (mid ++ t) = (pre ++ z :: mid) ++ t := fun z t => by simp
 have hl : ∀ z : Nat, q = (pre ++ z :: mid).length := fun z => by simp; omega
 rw [get_mid pre _ x hp]
 rw [e x, get_mid (pre ++ x :: mid) post y (hl x), set_mid (pre ++ x :: mid) post y x (hl x), ← e x, set_mid pre _ x y hp]
theorem swap_l1 (n : Nat) (l : List (List UInt8)) (js : List Nat) (hj : js.length ≤ 100000) : ∀ (X Y pre mid post : List Nat) (fu a1 a2 a3 i : Nat), X.length = Y.length → X.length < fu → a1 + i = pre.length → a2 + i = pre.length + X.length + mid.length → a3 = i + X.length →
  js.length = pre.length + X.length + mid.length + Y.length + post.length →
  srSwap_l1 n l js (a1 : Int) (a2 : Int) (a3 : Int) fu (pre ++ (X ++ (mid ++ (Y ++ post)))) (i : Int) = some (pre ++ (Y ++ (mid ++ (X ++ post))))
 | _, _, _, _, _, 0, _, _, _, _, _, h, _, _, _, _ => by omega
 | [], [], pre, mid, post, fu + 1, a1, a2, a3, i, _, _, _, _, h3, _ => by
  rw [srSwap_l1, ite_f (decide_eq_false (by simp at h3; omega))]
 | [], _ :: _, _, _, _, _ + 1, _, _, _, _, h, _, _, _, _, _ => by simp at h
 | _ :: _, [], _, _, _, _ + 1, _, _, _, _, h, _, _, _, _, _ => by simp at h
 | x :: X, y :: Y, pre, mid, post, fu + 1, a1, a2, a3, i, hl, hf, h1, h2, h3, h4 => by
  simp only [List.length_cons] at hl hf h2 h3 h4
  rw [srSwap_l1, ite_t (decide_eq_true (by omega)), gd_pos (okI64 (by omega) (by omega)), gd_pos (okI64 (by omega) (by omega)), gd_pos (okI64 (by omega) (by omega)), gd_pos (by omega), gd_pos (by omega), gd_pos (okI64 (by omega) (by omega)), gd_pos (by omega), gd_pos (by omega), gd_pos (by omega), gd_pos (by omega), gd_pos (by omega), gd_pos (by omega), gd_pos (okI64 (by omega) (by omega))]
  have e : pre ++ ((x :: X) ++ (mid ++ ((y :: Y) ++ post))) = pre ++ x :: ((X ++ mid) ++ y :: (Y ++ post)) := by simp
  rw [show ((a1 : Int) + (i : Int)).toNat = a1 + i by omega, show ((a2 : Int) + (i : Int)).toNat = a2 + i by omega, e, swp2 h1 (by simp; omega)]
  have := swap_l1 n l js hj X Y (pre ++ [y]) (mid ++ [x]) post fu a1 a2 a3 (i + 1) (by omega) (by omega) (by simp; omega) (by simp; omega) (by omega) (by simp; omega)
  rw [show ((i : Int) + 1) = ((i + 1 : Nat) : Int) by omega]
  simp only [List.append_assoc, List.singleton_append, List.cons_append, List.nil_append] at this ⊢
  exact this
theorem swap_is {n : Nat} (l : List (List UInt8)) {X Y pre mid post : List Nat} {a1 a2 a3 : Int} (hl : X.length = Y.length) (hf : X.length < n) (h1 : a1 = (pre.length : Int)) (h2 : a2 = ((pre.length + X.length + mid.length : Nat) : Int)) (h3 : a3 = (X.length : Int))
  (h4 : pre.length + X.length + mid.length + Y.length + post.length ≤ 100000) :
  srSwap n l (pre ++ (X ++ (mid ++ (Y ++ post)))) a1 a2 a3 = some (pre ++ (Y ++ (mid ++ (X ++ post)))) := by
 unfold srSwap
 subst h1; subst h2; subst h3
 exact swap_l1 n l _ (by simp; omega) X Y pre mid post n pre.length _ X.length 0 hl hf rfl rfl (by omega) (by simp; omega)
theorem rot_l1 (n : Nat) (l : List (List UInt8)) (js : List Nat) : ∀ (fu : Nat) (X Y P S : List Nat) (a2 : Int), X ≠ [] → Y ≠ [] → X.length + Y.length ≤ fu → X.length + Y.length < n → a2 = ((P.length + X.length : Nat) : Int) → P.length + X.length + Y.length + S.length ≤ 100000 →
  srRot_l1 n l js a2 fu (P ++ (X ++ (Y ++ S))) (X.length : Int) (Y.length : Int) = some (P ++ (Y ++ (X ++ S)))
 | 0, X, Y, P, S, a2, hX, hY, h, _, _, _ => by have := List.length_pos_iff.2 hX; omega
 | fu + 1, X, Y, P, S, a2, hX, hY, h, hn, ha, h4 => by
  have hx := List.length_pos_iff.2 hX
  have hy := List.length_pos_iff.2 hY
  subst ha
  rw [srRot_l1]
  by_cases hxy : X.length = Y.length
  ·rw [ite_f (by rw [hxy]; exact bne_self_eq_false _)]
   unfold srRot_j1
   rw [gd_pos (okI64 (by omega) (by omega))]
   have := swap_is (n := n) l (X := X) (Y := Y) (pre := P) (mid := []) (post := S) (a1 := ((P.length + X.length : Nat) : Int) - (X.length : Int)) (a2 := ((P.length + X.length : Nat) : Int)) (a3 := (X.length : Int)) hxy (by omega) (by omega) (by simp) rfl (by simp; omega)
   rw [List.nil_append, List.nil_append] at this
   rw [this, Option.bind_some]
  ·rw [ite_t (by rw [bne_iff_ne]; omega)]
   by_cases hgt : Y.length < X.length
   ·rw [ite_t (decide_eq_true (by omega)), gd_pos (okI64 (by omega) (by omega))]
    obtain ⟨X1, X2, rfl, hl⟩ : ∃ X1 X2, X = X1 ++ X2 ∧ X1.length = Y.length := ⟨X.take Y.length, X.drop Y.length, (List.take_append_drop _ _).symm, by rw [List.length_take]; omega⟩
    rw [List.length_append] at *
    have := swap_is (n := n) l (X := X1) (Y := Y) (pre := P) (mid := X2) (post := S) (a1 := ((P.length + (X1.length + X2.length) : Nat) : Int) - ((X1.length + X2.length : Nat) : Int)) (a2 := ((P.length + (X1.length + X2.length) : Nat) : Int)) (a3 := (Y.length : Int)) hl (by omega) (by omega) (by omega) (by omega) (by omega)
    rw [List.append_assoc X1]
    rw [this, Option.bind_some, gd_pos (okI64 (by omega) (by omega))]
    have ih := rot_l1 n l js fu X2 X1 (P ++ Y) S ((P.length + (X1.length + X2.length) : Nat) : Int) (List.length_pos_iff.1 (by omega)) (List.length_pos_iff.1 (by omega)) (by omega) (by omega) (by rw [List.length_append]; omega) (by rw [List.length_append]; omega)
    rw [show ((X1.length + X2.length : Nat) : Int) - (Y.length : Int) = (X2.length : Int) by omega, show (Y.length : Int) = (X1.length : Int) by omega]
    simp only [List.append_assoc] at ih ⊢
    exact ih
   ·rw [ite_f (decide_eq_false (by omega)), gd_pos (okI64 (by omega) (by omega)), gd_pos (okI64 (by omega) (by omega)), gd_pos (okI64 (by omega) (by omega))]
    obtain ⟨Y1, Y2, rfl, hl⟩ : ∃ Y1 Y2, Y = Y1 ++ Y2 ∧ X.length = Y2.length := ⟨Y.take (Y.length - X.length), Y.drop (Y.length - X.length), (List.take_append_drop _ _).symm, by rw [List.length_drop]; omega⟩
    rw [List.length_append] at *
    have := swap_is (n := n) l (X := X) (Y := Y2) (pre := P) (mid := Y1) (post := S) (a1 := ((P.length + X.length : Nat) : Int) - (X.length : Int)) (a2 := ((P.length + X.length : Nat) : Int) + ((Y1.length + Y2.length : Nat) : Int) - (X.length : Int)) (a3 := (X.length : Int)) hl (by omega) (by omega) (by omega) rfl (by omega)
    rw [List.append_assoc Y1]
    rw [this, Option.bind_some, gd_pos (okI64 (by omega) (by omega))]
    have ih := rot_l1 n l js fu Y2 Y1 P (X ++ S) ((P.length + X.length : Nat) : Int) (List.length_pos_iff.1 (by omega)) (List.length_pos_iff.1 (by omega)) (by omega) (by omega) (by omega) (by rw [List.length_append]; omega)
    rw [show ((Y1.length + Y2.length : Nat) : Int) - (X.length : Int) = (Y1.length : Int) by omega, show (X.length : Int) = (Y2.length : Int) by omega]
    simp only [List.append_assoc] at ih ⊢
    exact ih
theorem rot_is {n : Nat} (l : List (List UInt8)) {X Y P S : List Nat} {a1 a2 a3 : Int} (hX : X ≠ []) (hY : Y ≠ []) (hn : X.length + Y.length < n) (h1 : a1 = (P.length : Int)) (h2 : a2 = ((P.length + X.length : Nat) : Int)) (h3 : a3 = ((P.length + X.length + Y.length : Nat) : Int))
  (h4 : P.length + X.length + Y.length + S.length ≤ 100000) : srRot n l (P ++ (X ++ (Y ++ S))) a1 a2 a3 = some (P ++ (Y ++ (X ++ S))) := by
 unfold srRot
 rw [gd_pos (okI64 (by omega) (by omega)), gd_pos (okI64 (by omega) (by omega))]
 have := rot_l1 n l (P ++ (X ++ (Y ++ S))) n X Y P S a2 hX hY (by omega) hn h2 h4
 rw [show a2 - a1 = (X.length : Int) by omega, show a3 - a2 = (Y.length : Int) by omega]
 exact this
end Go.Sx
end
section
namespace Go.Sx
open Go Go.RowKit Go.Ch Go.Proofs.Ytliilihbnhdemaa
theorem half_is {s : Nat} {i : Int} (hi : i = (s : Int)) (h : s < 4000000000000000000) : IntKind.i64.wrap (((shr64 (UInt64.ofInt i) 1).toNat : Nat) : Int) = ((s / 2 : Nat) : Int) := by
 subst hi
 have e : (UInt64.ofInt (s : Int)).toNat = s := by
  unfold UInt64.ofInt; simp; omega
 have e2 : (shr64 (UInt64.ofInt (s : Int)) 1).toNat = s / 2 := by
  unfold shr64
  rw [if_pos (by decide), UInt64.toNat_shiftRight, e]
  show s >>> 1 = s / 2
  rw [Nat.shiftRight_eq_div_pow]
 rw [e2, IntKind.wrap_i64]
 omega
theorem get_in {P A T : List Nat} {k t : Nat} (hk : k = P.length + t) (ht : t < A.length) : (P ++ (A ++ T)).getD k 0 = A.getD t 0 := by
 subst hk
 rw [List.getD_eq_getElem?_getD, List.getD_eq_getElem?_getD, List.getElem?_append_right (by omega), Nat.add_sub_cancel_left, List.getElem?_append_left ht]
theorem Sr.at {l : List (List UInt8)} {xs : List Nat} (h : Sr l xs) {s t : Nat} (hst : s ≤ t) (ht : t < xs.length) : ltl l (xs.getD t 0) (xs.getD s 0) = false := by
 by_cases e : s = t
 ·subst e; exact bl_irr _
 ·have := List.pairwise_iff_getElem.1 h s t (by omega) ht (by omega)
  rw [List.getD_eq_getElem?_getD, List.getD_eq_getElem?_getD, List.getElem?_eq_getElem ht, List.getElem?_eq_getElem (show s < xs.length by omega)]
  exact this
theorem mem_at {xs : List Nat} {x : Nat} (h : x ∈ xs) : ∃ t, t < xs.length ∧ xs.getD t 0 = x := by
 obtain ⟨t, ht, e⟩ := List.getElem_of_mem h
 exact ⟨t, ht, by rw [List.getD_eq_getElem?_getD, List.getElem?_eq_getElem ht]; exact e⟩
abbrev MrT := List (List UInt8) → List Nat → Int → Int → Int → Option (List Nat)
theorem bs_l2 (n : Nat) (rc : MrT) (l : List (List UInt8)) (js : List Nat) (hj : js.length ≤ 100000) {a : Nat} (ha : a < js.length) (lo hi : Nat) (hhi : hi ≤ js.length)
  (hm : ∀ s t, lo ≤ s → s ≤ t → t < hi → ltl l (js.getD t 0) (js.getD a 0) = true → ltl l (js.getD s 0) (js.getD a 0) = true) :
  ∀ (fu x y : Nat), lo ≤ x → x ≤ y → y ≤ hi → y - x < fu → (∀ t, lo ≤ t → t < x → ltl l (js.getD t 0) (js.getD a 0) = true) → (∀ t, y ≤ t → t < hi → ltl l (js.getD t 0) (js.getD a 0) = false) →
   ∃ i, lo ≤ i ∧ i ≤ hi ∧ (∀ t, lo ≤ t → t < i → ltl l (js.getD t 0) (js.getD a 0) = true) ∧ (∀ t, i ≤ t → t < hi → ltl l (js.getD t 0) (js.getD a 0) = false) ∧ srMerge_l2 n rc l js (a : Int) fu (x : Int) (y : Int) = srMerge_j1 n rc l js (a : Int) (i : Int)
 | 0, x, y, _, _, _, h, _, _ => by omega
 | fu + 1, x, y, h1, h2, h3, h, hp, hq => by
  rw [srMerge_l2]
  by_cases hxy : x < y
  ·have hh := half_is (s := x + y) (i := (x : Int) + (y : Int)) (by omega) (by omega)
   rw [ite_t (decide_eq_true (by omega)), gd_pos (okI64 (by omega) (by omega)), gd_pos (by decide), hh, gd_pos (by omega), gd_pos (by omega), gd_pos (by omega), gd_pos (by omega), cmp_ltl]
   simp only [Int.toNat_natCast]
   cases hc : ltl l (js.getD ((x + y) / 2) 0) (js.getD a 0) with
   | true =>
    rw [cond_true, gd_pos (okI64 (by omega) (by omega)), show (((x + y) / 2 : Nat) : Int) + 1 = (((x + y) / 2 + 1 : Nat) : Int) by omega]
    exact bs_l2 n rc l js hj ha lo hi hhi hm fu ((x + y) / 2 + 1) y (by omega) (by omega) h3 (by omega) (fun t t1 t2 => hm t ((x + y) / 2) t1 (by omega) (by omega) hc) hq
   | false =>
    rw [cond_false]
    refine bs_l2 n rc l js hj ha lo hi hhi hm fu x ((x + y) / 2) h1 (by omega) (by omega) (by omega) hp fun t t1 t2 => ?_
    cases ht : ltl l (js.getD t 0) (js.getD a 0) with
    | false => rfl
    | true => rw [hm ((x + y) / 2) t (by omega) t1 t2 ht] at hc; cases hc
  ·obtain rfl : x = y := by omega
   rw [ite_f (decide_eq_false (by omega))]
   exact ⟨x, h1, h3, hp, hq, rfl⟩
theorem bs_l4 (n : Nat) (rc : MrT) (l : List (List UInt8)) (js : List Nat) (hj : js.length ≤ 100000) {m : Nat} (hmj : m < js.length) (lo hi : Nat) (hhi : hi ≤ js.length)
  (hm : ∀ s t, lo ≤ s → s ≤ t → t < hi → ltl l (js.getD m 0) (js.getD t 0) = false → ltl l (js.getD m 0) (js.getD s 0) = false) :
  ∀ (fu x y : Nat), lo ≤ x → x ≤ y → y ≤ hi → y - x < fu → (∀ t, lo ≤ t → t < x → ltl l (js.getD m 0) (js.getD t 0) = false) → (∀ t, y ≤ t → t < hi → ltl l (js.getD m 0) (js.getD t 0) = true) →
   ∃ i, lo ≤ i ∧ i ≤ hi ∧ (∀ t, lo ≤ t → t < i → ltl l (js.getD m 0) (js.getD t 0) = false) ∧ (∀ t, i ≤ t → t < hi → ltl l (js.getD m 0) (js.getD t 0) = true) ∧ srMerge_l4 n rc l js (m : Int) fu (x : Int) (y : Int) = srMerge_j2 n rc l js (m : Int) (i : Int)
 | 0, x, y, _, _, _, h, _, _ => by omega
 | fu + 1, x, y, h1, h2, h3, h, hp, hq => by
  rw [srMerge_l4]
  by_cases hxy : x < y
  ·have hh := half_is (s := x + y) (i := (x : Int) + (y : Int)) (by omega) (by omega)
   rw [ite_t (decide_eq_true (by omega)), gd_pos (okI64 (by omega) (by omega)), gd_pos (by decide), hh, gd_pos (by omega), gd_pos (by omega), gd_pos (by omega), gd_pos (by omega), cmp_ltl]
   simp only [Int.toNat_natCast]
   cases hc : ltl l (js.getD m 0) (js.getD ((x + y) / 2) 0) with
   | false =>
    rw [ite_t (by rfl), gd_pos (okI64 (by omega) (by omega)), show (((x + y) / 2 : Nat) : Int) + 1 = (((x + y) / 2 + 1 : Nat) : Int) by omega]
    exact bs_l4 n rc l js hj hmj lo hi hhi hm fu ((x + y) / 2 + 1) y (by omega) (by omega) h3 (by omega) (fun t t1 t2 => hm t ((x + y) / 2) t1 (by omega) (by omega) hc) hq
   | true =>
    rw [ite_f (by rfl)]
    refine bs_l4 n rc l js hj hmj lo hi hhi hm fu x ((x + y) / 2) h1 (by omega) (by omega) (by omega) hp fun t t1 t2 => ?_
    cases ht : ltl l (js.getD m 0) (js.getD t 0) with
    | true => rfl
    | false => rw [hm ((x + y) / 2) t (by omega) t1 t2 ht] at hc; cases hc
  ·obtain rfl : x = y := by omega
   rw [ite_f (decide_eq_false (by omega))]
   exact ⟨x, h1, h3, hp, hq, rfl⟩
theorem bs_l5 (n : Nat) (rc : MrT) (l : List (List UInt8)) (js : List Nat) (hj : js.length ≤ 100000) {a m b : Nat} (N : Nat) (hN : N = (a + b) / 2 + m) (hab : a + b < 1000000) (hm0 : m < 1000000) (lo hi : Nat) (hhi : hi ≤ js.length) (hlo : N ≤ js.length + lo) (hN1 : hi + 1 ≤ N)
  (hm : ∀ s t, lo ≤ s → s ≤ t → t < hi → ltl l (js.getD (N - 1 - t) 0) (js.getD t 0) = false → ltl l (js.getD (N - 1 - s) 0) (js.getD s 0) = false) :
  ∀ (fu x y : Nat), lo ≤ x → x ≤ y → y ≤ hi → y - x < fu → (∀ t, lo ≤ t → t < x → ltl l (js.getD (N - 1 - t) 0) (js.getD t 0) = false) → (∀ t, y ≤ t → t < hi → ltl l (js.getD (N - 1 - t) 0) (js.getD t 0) = true) →
   ∃ i, lo ≤ i ∧ i ≤ hi ∧ (∀ t, lo ≤ t → t < i → ltl l (js.getD (N - 1 - t) 0) (js.getD t 0) = false) ∧ (∀ t, i ≤ t → t < hi → ltl l (js.getD (N - 1 - t) 0) (js.getD t 0) = true) ∧ srMerge_l5 n rc l js (a : Int) (m : Int) (b : Int) fu (x : Int) (y : Int) = srMerge_j4 n rc l js (a : Int) (m : Int) (b : Int) (i : Int)
 | 0, x, y, _, _, _, h, _, _ => by omega
 | fu + 1, x, y, h1, h2, h3, h, hp, hq => by
  rw [srMerge_l5]
  by_cases hxy : x < y
  ·have hh := half_is (s := x + y) (i := (x : Int) + (y : Int)) (by omega) (by omega)
   have hh2 := half_is (s := a + b) (i := (a : Int) + (b : Int)) (by omega) (by omega)
   have hc0 : (((((a + b) / 2 : Nat) : Int) + (m : Int)) - 1) - (((x + y) / 2 : Nat) : Int) = ((N - 1 - (x + y) / 2 : Nat) : Int) := by omega
   rw [ite_t (decide_eq_true (by omega)), gd_pos (okI64 (by omega) (by omega)), gd_pos (by decide), hh, hh2, hc0, gd_pos (okI64 (by omega) (by omega)), gd_pos (by omega), gd_pos (by omega), gd_pos (by omega), gd_pos (by omega), cmp_ltl]
   simp only [Int.toNat_natCast]
   cases hc : ltl l (js.getD (N - 1 - (x + y) / 2) 0) (js.getD ((x + y) / 2) 0) with
   | false =>
    rw [ite_t (by rfl), gd_pos (okI64 (by omega) (by omega)), show (((x + y) / 2 : Nat) : Int) + 1 = (((x + y) / 2 + 1 : Nat) : Int) by omega]
    exact bs_l5 n rc l js hj N hN hab hm0 lo hi hhi hlo hN1 hm fu ((x + y) / 2 + 1) y (by omega) (by omega) h3 (by omega) (fun t t1 t2 => hm t ((x + y) / 2) t1 (by omega) (by omega) hc) hq
   | true =>
    rw [ite_f (by rfl)]
    refine bs_l5 n rc l js hj N hN hab hm0 lo hi hhi hlo hN1 hm fu x ((x + y) / 2) h1 (by omega) (by omega) (by omega) hp fun t t1 t2 => ?_
    cases ht : ltl l (js.getD (N - 1 - t) 0) (js.getD t 0) with
    | true => rfl
    | false => rw [hm ((x + y) / 2) t (by omega) t1 t2 ht] at hc; cases hc
  ·obtain rfl : x = y := by omega
   rw [ite_f (decide_eq_false (by omega))]
   exact ⟨x, h1, h3, hp, hq, rfl⟩
theorem ins_right (n : Nat) (rc : MrT) (l : List (List UInt8)) (js : List Nat) (hj : js.length ≤ 100000) (x : Nat) : ∀ (B P T : List Nat) (fu : Nat) (i : Int), B.length < fu → i = ((P.length + 1 + B.length : Nat) : Int) → js.length = P.length + 1 + B.length + T.length →
  srMerge_l1 n rc l js i fu (P ++ x :: (B ++ T)) (P.length : Int) = some (P ++ (B ++ x :: T))
 | _, _, _, 0, _, h, _, _ => by omega
 | [], P, T, fu + 1, i, h, hi, _ => by
  simp only [List.length_nil] at hi
  rw [srMerge_l1, gd_pos (okI64 (by omega) (by omega)), ite_f (decide_eq_false (by omega))]; rfl
 | y :: B, P, T, fu + 1, i, h, hi, hl => by
  simp only [List.length_cons] at h hi hl
  rw [srMerge_l1, gd_pos (okI64 (by omega) (by omega)), ite_t (decide_eq_true (by omega)), gd_pos (okI64 (by omega) (by omega)), gd_pos (okI64 (by omega) (by omega)), gd_pos (by omega), gd_pos (by omega), gd_pos (by omega), gd_pos (by omega), gd_pos (by omega), gd_pos (by omega), gd_pos (by omega), gd_pos (by omega), gd_pos (okI64 (by omega) (by omega))]
  rw [show ((P.length : Int) + 1).toNat = P.length + 1 by omega, show ((P.length : Int)).toNat = P.length by omega]
  have e := swp2 (pre := P) (mid := []) (post := B ++ T) (x := x) (y := y) (p := P.length) (q := P.length + 1) rfl rfl
  rw [List.nil_append, List.nil_append] at e
  rw [show P ++ x :: (y :: B ++ T) = P ++ x :: y :: (B ++ T) from rfl, e]
  have ih := ins_right n rc l js hj x B (P ++ [y]) T fu i (by omega) (by rw [List.length_append, List.length_singleton]; omega) (by rw [List.length_append, List.length_singleton]; omega)
  rw [show (((P ++ [y]).length : Nat) : Int) = (P.length : Int) + 1 by rw [List.length_append, List.length_singleton]; omega] at ih
  simp only [List.append_assoc, List.singleton_append, List.cons_append, List.nil_append] at ih ⊢
  exact ih
theorem ins_left (n : Nat) (rc : MrT) (l : List (List UInt8)) (js : List Nat) (hj : js.length ≤ 100000) (x : Nat) : ∀ (k : Nat) (A P T : List Nat) (fu : Nat) (i : Int), A.length = k → k < fu → i = (P.length : Int) → js.length = P.length + 1 + A.length + T.length →
  srMerge_l3 n rc l js i fu (P ++ (A ++ x :: T)) ((P.length + A.length : Nat) : Int) = some (P ++ x :: (A ++ T))
 | _, _, _, _, 0, _, _, h, _, _ => by omega
 | 0, A, P, T, fu + 1, i, hk, _, hi, _ => by
  obtain rfl := List.eq_nil_of_length_eq_zero hk
  simp only [List.length_nil]
  rw [srMerge_l3, ite_f (decide_eq_false (by omega))]; rfl
 | k + 1, A, P, T, fu + 1, i, hk, h, hi, hl => by
  obtain ⟨A', y, rfl⟩ : ∃ A' y, A = A' ++ [y] := by
   have hne : A ≠ [] := by rintro rfl; simp at hk
   exact ⟨A.dropLast, A.getLast hne, (List.dropLast_concat_getLast hne).symm⟩
  rw [List.length_append, List.length_singleton] at hk hl ⊢
  rw [srMerge_l3, ite_t (decide_eq_true (by omega)), gd_pos (okI64 (by omega) (by omega)), gd_pos (okI64 (by omega) (by omega)), gd_pos (by omega), gd_pos (by omega), gd_pos (by omega), gd_pos (by omega), gd_pos (by omega), gd_pos (by omega), gd_pos (by omega), gd_pos (by omega), gd_pos (okI64 (by omega) (by omega))]
  rw [show (((P.length + (A'.length + 1) : Nat) : Int) - 1).toNat = P.length + A'.length by omega, show (((P.length + (A'.length + 1) : Nat) : Int)).toNat = P.length + A'.length + 1 by omega]
  have e := swp2' (pre := P ++ A') (mid := []) (post := T) (x := y) (y := x) (p := P.length + A'.length) (q := P.length + A'.length + 1) (by simp) (by simp)
  rw [List.nil_append, List.nil_append] at e
  rw [show P ++ (A' ++ [y] ++ x :: T) = (P ++ A') ++ y :: x :: T by simp, e]
  have ih := ins_left n rc l js hj x k A' P (y :: T) fu i (by omega) (by omega) hi (by rw [List.length_cons]; omega)
  rw [show (((P.length + (A'.length + 1) : Nat) : Int) - 1) = ((P.length + A'.length : Nat) : Int) by omega, show (P ++ A') ++ x :: y :: T = P ++ (A' ++ x :: y :: T) by simp, ih]
  simp
end Go.Sx
end
section
namespace Go.Sx
open Go Go.RowKit Go.Ch Go.Proofs.Ytliilihbnhdemaa
theorem Sr_app {l : List (List UInt8)} {X Y : List Nat} : Sr l (X ++ Y) ↔ Sr l X ∧ Sr l Y ∧ ∀ x ∈ X, ∀ y ∈ Y, ltl l y x = false := List.pairwise_append
theorem cut_at (B : List Nat) (k : Nat) (h : k ≤ B.length) : ∃ B1 B2, B = B1 ++ B2 ∧ B1.length = k := ⟨B.take k, B.drop k, (List.take_append_drop _ _).symm, by rw [List.length_take]; omega⟩
theorem merge_one {l : List (List UInt8)} {n : Nat} (rc : MrT) {x : Nat} {B P S : List Nat} (sB : Sr l B) (hn : B.length + 200 ≤ n) (h4 : P.length + 1 + B.length + S.length ≤ 100000) :
  ∃ C, srMerge_l2 n rc l (P ++ ([x] ++ (B ++ S))) (P.length : Int) n ((P.length + 1 : Nat) : Int) ((P.length + 1 + B.length : Nat) : Int) = some (P ++ (C ++ S)) ∧ C.Perm ([x] ++ B) ∧ Sr l C := by
 have hjl : (P ++ ([x] ++ (B ++ S))).length = P.length + 1 + B.length + S.length := by simp; omega
 have gx : (P ++ ([x] ++ (B ++ S))).getD P.length 0 = x := get_in (A := [x]) (t := 0) rfl (by simp)
 have gB : ∀ t, t < B.length → (P ++ ([x] ++ (B ++ S))).getD (P.length + 1 + t) 0 = B.getD t 0 := fun t ht => by
  rw [← List.append_assoc P]
  exact get_in (by simp) ht
 obtain ⟨i, i1, i2, i3, i4, hi⟩ := bs_l2 n rc l (P ++ ([x] ++ (B ++ S))) (by omega) (a := P.length) (by omega) (P.length + 1) (P.length + 1 + B.length) (by omega) (fun s t s1 st t1 ht => by
  obtain ⟨s', rfl⟩ : ∃ s', s = P.length + 1 + s' := ⟨s - (P.length + 1), by omega⟩
  obtain ⟨t', rfl⟩ : ∃ t', t = P.length + 1 + t' := ⟨t - (P.length + 1), by omega⟩
  rw [gx, gB _ (by omega)] at ht ⊢
  cases hs : ltl l (B.getD s' 0) x with
  | true => rfl
  | false => rw [ltl_tr hs (sB.at (by omega) (by omega))] at ht; cases ht) n (P.length + 1) (P.length + 1 + B.length) (Nat.le_refl _) (by omega) (Nat.le_refl _) (by omega) (fun t t1 t2 => by omega) (fun t t1 t2 => by omega)
 rw [hi]
 obtain ⟨B1, B2, rfl, hl1⟩ := cut_at B (i - (P.length + 1)) (by omega)
 obtain ⟨s1, s2, s3⟩ := Sr_app.1 sB
 have lB : (B1 ++ B2).length = B1.length + B2.length := List.length_append
 have q1 : ∀ y ∈ B1, ltl l y x = true := fun y hy => by
  obtain ⟨t, ht, rfl⟩ := mem_at hy
  have := i3 (P.length + 1 + t) (by omega) (by omega)
  rw [gx, gB t (by omega)] at this
  rw [List.getD_eq_getElem?_getD, List.getElem?_append_left ht, ← List.getD_eq_getElem?_getD] at this
  exact this
 have q2 : ∀ y ∈ B2, ltl l y x = false := fun y hy => by
  obtain ⟨t, ht, rfl⟩ := mem_at hy
  have := i4 (P.length + 1 + (B1.length + t)) (by omega) (by omega)
  rw [gx, gB _ (by omega)] at this
  rw [List.getD_eq_getElem?_getD, List.getElem?_append_right (by omega), Nat.add_sub_cancel_left, ← List.getD_eq_getElem?_getD] at this
  exact this
 refine ⟨B1 ++ x :: B2, ?_, ?_, ?_⟩
 ·unfold srMerge_j1
  have := ins_right n rc l (P ++ ([x] ++ ((B1 ++ B2) ++ S))) (by omega) x B1 P (B2 ++ S) n (i : Int) (by omega) (by omega) (by rw [hjl]; simp only [List.length_append]; omega)
  simp only [List.append_assoc, List.singleton_append, List.cons_append, List.nil_append] at this ⊢
  exact this
 ·rw [List.singleton_append]
  exact List.perm_middle
 ·rw [Sr_app]
  refine ⟨s1, List.pairwise_cons.2 ⟨q2, s2⟩, fun y hy z hz => ?_⟩
  rcases List.mem_cons.1 hz with rfl | hz
  ·exact ltl_as (q1 y hy)
  ·exact s3 y hy z hz
theorem merge_last {l : List (List UInt8)} {n : Nat} (rc : MrT) {x : Nat} {A P S : List Nat} (sA : Sr l A) (hn : A.length + 200 ≤ n) (h4 : P.length + A.length + 1 + S.length ≤ 100000) :
  ∃ C, srMerge_l4 n rc l (P ++ (A ++ ([x] ++ S))) ((P.length + A.length : Nat) : Int) n (P.length : Int) ((P.length + A.length : Nat) : Int) = some (P ++ (C ++ S)) ∧ C.Perm (A ++ [x]) ∧ Sr l C := by
 have hjl : (P ++ (A ++ ([x] ++ S))).length = P.length + A.length + 1 + S.length := by simp; omega
 have gx : (P ++ (A ++ ([x] ++ S))).getD (P.length + A.length) 0 = x := by
  rw [← List.append_assoc P]
  exact get_in (A := [x]) (t := 0) (by simp) (by simp)
 have gA : ∀ t, t < A.length → (P ++ (A ++ ([x] ++ S))).getD (P.length + t) 0 = A.getD t 0 := fun t ht => get_in rfl ht
 obtain ⟨i, i1, i2, i3, i4, hi⟩ := bs_l4 n rc l (P ++ (A ++ ([x] ++ S))) (by omega) (m := P.length + A.length) (by omega) P.length (P.length + A.length) (by omega) (fun s t s1 st t1 ht => by
  obtain ⟨s', rfl⟩ : ∃ s', s = P.length + s' := ⟨s - P.length, by omega⟩
  obtain ⟨t', rfl⟩ : ∃ t', t = P.length + t' := ⟨t - P.length, by omega⟩
  rw [gx, gA _ (by omega)] at ht ⊢
  exact ltl_tr (sA.at (by omega) (by omega)) ht) n P.length (P.length + A.length) (Nat.le_refl _) (by omega) (Nat.le_refl _) (by omega) (fun t t1 t2 => by omega) (fun t t1 t2 => by omega)
 rw [hi]
 obtain ⟨A1, A2, rfl, hl1⟩ := cut_at A (i - P.length) (by omega)
 obtain ⟨s1, s2, s3⟩ := Sr_app.1 sA
 have lA : (A1 ++ A2).length = A1.length + A2.length := List.length_append
 have q1 : ∀ y ∈ A1, ltl l x y = false := fun y hy => by
  obtain ⟨t, ht, rfl⟩ := mem_at hy
  have := i3 (P.length + t) (by omega) (by omega)
  rw [gx, gA t (by omega)] at this
  rw [List.getD_eq_getElem?_getD, List.getElem?_append_left ht, ← List.getD_eq_getElem?_getD] at this
  exact this
 have q2 : ∀ y ∈ A2, ltl l x y = true := fun y hy => by
  obtain ⟨t, ht, rfl⟩ := mem_at hy
  have := i4 (P.length + (A1.length + t)) (by omega) (by omega)
  rw [gx, gA _ (by omega)] at this
  rw [List.getD_eq_getElem?_getD, List.getElem?_append_right (by omega), Nat.add_sub_cancel_left, ← List.getD_eq_getElem?_getD] at this
  exact this
 refine ⟨A1 ++ x :: A2, ?_, ?_, ?_⟩
 ·unfold srMerge_j2
  have := ins_left n rc l (P ++ ((A1 ++ A2) ++ ([x] ++ S))) (by omega) x A2.length A2 (P ++ A1) S n (i : Int) rfl (by omega) (by rw [List.length_append]; omega) (by rw [hjl]; simp only [List.length_append]; omega)
  rw [List.length_append, show P.length + A1.length + A2.length = P.length + (A1 ++ A2).length by rw [lA]; omega] at this
  simp only [List.append_assoc, List.singleton_append, List.cons_append, List.nil_append] at this ⊢
  exact this
 ·exact (List.perm_middle.trans (List.perm_append_singleton x (A1 ++ A2)).symm)
 ·rw [Sr_app]
  refine ⟨s1, List.pairwise_cons.2 ⟨fun y hy => ltl_as (q2 y hy), s2⟩, fun y hy z hz => ?_⟩
  rcases List.mem_cons.1 hz with rfl | hz
  ·exact q1 y hy
  ·exact s3 y hy z hz
def MI (l : List (List UInt8)) (k : Nat) (rc : MrT) : Prop := ∀ (A B P S : List Nat) (a m b : Int), A ≠ [] → B ≠ [] → Sr l A → Sr l B → A.length + B.length + 200 ≤ k → a = (P.length : Int) → m = ((P.length + A.length : Nat) : Int) → b = ((P.length + A.length + B.length : Nat) : Int) →
 P.length + A.length + B.length + S.length ≤ 100000 → ∃ C, rc l (P ++ (A ++ (B ++ S))) a m b = some (P ++ (C ++ S)) ∧ C.Perm (A ++ B) ∧ Sr l C
abbrev hlf (i : Int) : Int := IntKind.i64.wrap (((shr64 (UInt64.ofInt i) 1).toNat : Nat) : Int)
theorem merge_lo {l : List (List UInt8)} {n k : Nat} {rc : MrT} (ih : MI l k rc) {A1 B1 D P js : List Nat} {a m b i : Int} {M : Nat} (hh : hlf (a + b) = (M : Int)) (ha : a = (P.length : Int)) (hi : i = ((P.length + A1.length : Nat) : Int)) (hM : M = P.length + A1.length + B1.length)
  (s1 : Sr l A1) (s2 : Sr l B1) (hk : A1.length + B1.length + 200 ≤ k) (hD : P.length + A1.length + B1.length + D.length ≤ 100000) :
  ∃ C1, srMerge_j5 n rc l js a m b i (P ++ (A1 ++ (B1 ++ D))) = srMerge_j6 n rc l js a m b i (P ++ (C1 ++ D)) ∧ C1.Perm (A1 ++ B1) ∧ Sr l C1 := by
 unfold srMerge_j5
 rw [show IntKind.i64.wrap (((shr64 (UInt64.ofInt (a + b)) 1).toNat : Nat) : Int) = (M : Int) from hh]
 by_cases e1 : A1.length = 0
 ·rw [ite_f (decide_eq_false (by omega))]
  obtain rfl := List.eq_nil_of_length_eq_zero e1
  exact ⟨B1, rfl, by simp, s2⟩
 ·rw [ite_t (decide_eq_true (by omega))]
  by_cases e2 : B1.length = 0
  ·rw [ite_f (decide_eq_false (by omega))]
   obtain rfl := List.eq_nil_of_length_eq_zero e2
   exact ⟨A1, rfl, by simp, s1⟩
  ·rw [ite_t (decide_eq_true (by omega))]
   obtain ⟨C1, h5, h6, h7⟩ := ih A1 B1 P D a i (M : Int) (List.length_pos_iff.1 (by omega)) (List.length_pos_iff.1 (by omega)) s1 s2 hk ha hi (by omega) hD
   rw [h5, Option.bind_some]
   exact ⟨C1, rfl, h6, h7⟩
theorem merge_hi {l : List (List UInt8)} {n k : Nat} {rc : MrT} (ih : MI l k rc) {A2 B2 S D js : List Nat} {a m b i : Int} {M E : Nat} (hh : hlf (a + b) = (M : Int)) (he : (M : Int) + m - i = (E : Int)) (hM : M = D.length) (hE : E = D.length + A2.length) (hb : b = ((D.length + A2.length + B2.length : Nat) : Int))
  (s1 : Sr l A2) (s2 : Sr l B2) (hk : A2.length + B2.length + 200 ≤ k) (hD : D.length + A2.length + B2.length + S.length ≤ 100000) :
  ∃ C2, srMerge_j6 n rc l js a m b i (D ++ (A2 ++ (B2 ++ S))) = some (D ++ (C2 ++ S)) ∧ C2.Perm (A2 ++ B2) ∧ Sr l C2 := by
 unfold srMerge_j6
 rw [show IntKind.i64.wrap (((shr64 (UInt64.ofInt (a + b)) 1).toNat : Nat) : Int) = (M : Int) from hh, he]
 by_cases e1 : A2.length = 0
 ·rw [ite_f (decide_eq_false (by omega))]
  obtain rfl := List.eq_nil_of_length_eq_zero e1
  exact ⟨B2, rfl, by simp, s2⟩
 ·rw [ite_t (decide_eq_true (by omega))]
  by_cases e2 : B2.length = 0
  ·rw [ite_f (decide_eq_false (by omega))]
   obtain rfl := List.eq_nil_of_length_eq_zero e2
   exact ⟨A2, rfl, by simp, s1⟩
  ·rw [ite_t (decide_eq_true (by omega))]
   obtain ⟨C2, h5, h6, h7⟩ := ih A2 B2 D S (M : Int) (E : Int) b (List.length_pos_iff.1 (by omega)) (List.length_pos_iff.1 (by omega)) s1 s2 hk (by omega) (by omega) hb hD
   rw [h5, Option.bind_some]
   exact ⟨C2, rfl, h6, h7⟩
theorem merge_rot {l : List (List UInt8)} {n : Nat} {rc : MrT} {A1 A2 B1 B2 S P : List Nat} {a m b i : Int} {M E : Nat} (hh : hlf (a + b) = (M : Int)) (he : (M : Int) + m - i = (E : Int)) (hi : i = ((P.length + A1.length : Nat) : Int)) (hm : m = ((P.length + A1.length + A2.length : Nat) : Int)) (hE : E = P.length + A1.length + A2.length + B1.length)
  (hn : A2.length + B1.length < n) (hD : P.length + A1.length + A2.length + B1.length + B2.length + S.length ≤ 100000) :
  srMerge_j4 n rc l (P ++ (A1 ++ (A2 ++ (B1 ++ (B2 ++ S))))) a m b i = srMerge_j5 n rc l (P ++ (A1 ++ (A2 ++ (B1 ++ (B2 ++ S))))) a m b i (P ++ (A1 ++ (B1 ++ (A2 ++ (B2 ++ S))))) := by
 unfold srMerge_j4
 rw [show IntKind.i64.wrap (((shr64 (UInt64.ofInt (a + b)) 1).toNat : Nat) : Int) = (M : Int) from hh, he, gd_pos (okI64 (by omega) (by omega))]
 by_cases e1 : A2.length = 0
 ·rw [ite_f (decide_eq_false (by omega))]
  obtain rfl := List.eq_nil_of_length_eq_zero e1
  rfl
 ·rw [ite_t (decide_eq_true (by omega))]
  by_cases e2 : B1.length = 0
  ·rw [ite_f (decide_eq_false (by omega))]
   obtain rfl := List.eq_nil_of_length_eq_zero e2
   rfl
  ·rw [ite_t (decide_eq_true (by omega))]
   have := rot_is (n := n) l (X := A2) (Y := B1) (P := P ++ A1) (S := B2 ++ S) (a1 := i) (a2 := m) (a3 := (E : Int)) (List.length_pos_iff.1 (by omega)) (List.length_pos_iff.1 (by omega)) (by omega) (by rw [List.length_append]; omega) (by rw [List.length_append]; omega) (by rw [List.length_append]; omega) (by rw [List.length_append, List.length_append]; omega)
   simp only [List.append_assoc] at this
   rw [this, Option.bind_some]
theorem merge_cut {l : List (List UInt8)} {n k : Nat} {rc : MrT} (ih : MI l k rc) {A1 A2 B1 B2 S P : List Nat} {a m b i : Int} {M E : Nat} (hh : hlf (a + b) = (M : Int)) (he : (M : Int) + m - i = (E : Int)) (ha : a = (P.length : Int)) (hi : i = ((P.length + A1.length : Nat) : Int)) (hm : m = ((P.length + A1.length + A2.length : Nat) : Int))
  (hb : b = ((P.length + A1.length + A2.length + B1.length + B2.length : Nat) : Int)) (hM : M = P.length + A1.length + B1.length) (hE : E = P.length + A1.length + A2.length + B1.length)
  (hn : A2.length + B1.length < n) (hk1 : A1.length + B1.length + 200 ≤ k) (hk2 : A2.length + B2.length + 200 ≤ k) (hD : P.length + A1.length + A2.length + B1.length + B2.length + S.length ≤ 100000)
  (sA : Sr l (A1 ++ A2)) (sB : Sr l (B1 ++ B2)) (c1 : ∀ x ∈ A1, ∀ y ∈ B2, ltl l y x = false) (c2 : ∀ x ∈ B1, ∀ y ∈ A2, ltl l y x = false) :
  ∃ C, srMerge_j4 n rc l (P ++ (A1 ++ (A2 ++ (B1 ++ (B2 ++ S))))) a m b i = some (P ++ (C ++ S)) ∧ C.Perm (A1 ++ A2 ++ (B1 ++ B2)) ∧ Sr l C := by
 obtain ⟨sa1, sa2, sa3⟩ := Sr_app.1 sA
 obtain ⟨sb1, sb2, sb3⟩ := Sr_app.1 sB
 have cross : ∀ x ∈ A1 ++ B1, ∀ y ∈ A2 ++ B2, ltl l y x = false := fun x hx y hy => by
  rcases List.mem_append.1 hx with hx | hx <;> rcases List.mem_append.1 hy with hy | hy
  ·exact sa3 x hx y hy
  ·exact c1 x hx y hy
  ·exact c2 x hx y hy
  ·exact sb3 x hx y hy
 obtain ⟨C1, h5, h6, h7⟩ := merge_lo (n := n) (js := P ++ (A1 ++ (A2 ++ (B1 ++ (B2 ++ S))))) (m := m) ih (D := A2 ++ (B2 ++ S)) hh ha hi hM sa1 sb1 hk1 (by simp only [List.length_append]; omega)
 have hl := h6.length_eq
 rw [List.length_append] at hl
 obtain ⟨C2, h8, h9, h10⟩ := merge_hi (n := n) (js := P ++ (A1 ++ (A2 ++ (B1 ++ (B2 ++ S))))) ih (S := S) (D := P ++ C1) (a := a) (m := m) (i := i) hh he (by rw [List.length_append]; omega) (by rw [List.length_append]; omega) (by rw [List.length_append]; omega) sa2 sb2 hk2 (by rw [List.length_append]; omega)
 refine ⟨C1 ++ C2, ?_, ?_, ?_⟩
 ·rw [merge_rot hh he hi hm hE hn hD, h5, ← List.append_assoc P C1, h8]
  simp only [List.append_assoc]
 ·refine (h6.append h9).trans ?_
  rw [List.append_assoc, List.append_assoc]
  refine List.Perm.append_left _ ?_
  rw [← List.append_assoc, ← List.append_assoc]
  exact List.Perm.append_right _ List.perm_append_comm
 ·rw [Sr_app]
  exact ⟨h7, h10, fun x hx y hy => cross x (h6.mem_iff.1 hx) y (h9.mem_iff.1 hy)⟩
theorem merge_key {l : List (List UInt8)} {n k : Nat} {rc : MrT} (ih : MI l k rc) {A B S P : List Nat} {M lo hi : Nat} (hM : M = (P.length + (P.length + A.length + B.length)) / 2) (sA : Sr l A) (sB : Sr l B) (hA : 2 ≤ A.length) (hB : 2 ≤ B.length) (hk : A.length + B.length + 199 ≤ k) (hkn : k ≤ n)
  (h4 : P.length + A.length + B.length + S.length ≤ 100000)
  (b1 : P.length ≤ lo ∧ lo ≤ hi ∧ hi ≤ P.length + A.length) (b2 : P.length + A.length + hi ≤ M + (P.length + A.length)) (b3 : M + (P.length + A.length) ≤ P.length + A.length + B.length + lo)
  (b4 : P.length < lo → M + (P.length + A.length) = P.length + A.length + B.length + lo) (b5 : hi < P.length + A.length → hi = M) :
  ∃ C, srMerge_j3 n rc l (P ++ (A ++ (B ++ S))) (P.length : Int) ((P.length + A.length : Nat) : Int) ((P.length + A.length + B.length : Nat) : Int) (lo : Int) (hi : Int) = some (P ++ (C ++ S)) ∧ C.Perm (A ++ B) ∧ Sr l C := by
 have hh := half_is (s := P.length + (P.length + A.length + B.length)) (i := (P.length : Int) + ((P.length + A.length + B.length : Nat) : Int)) (by omega) (by omega)
 rw [← hM] at hh
 have hjl : (P ++ (A ++ (B ++ S))).length = P.length + A.length + B.length + S.length := by simp; omega
 have gA : ∀ t, t < A.length → (P ++ (A ++ (B ++ S))).getD (P.length + t) 0 = A.getD t 0 := fun t ht => get_in rfl ht
 have gB : ∀ t, t < B.length → (P ++ (A ++ (B ++ S))).getD (P.length + A.length + t) 0 = B.getD t 0 := fun t ht => by
  rw [← List.append_assoc P]
  exact get_in (by simp) ht
 obtain ⟨js, hjs⟩ : ∃ js, js = P ++ (A ++ (B ++ S)) := ⟨_, rfl⟩
 rw [← hjs] at hjl gA gB ⊢
 obtain ⟨p, hp⟩ : ∃ p, p = P.length := ⟨_, rfl⟩
 obtain ⟨m, hm⟩ : ∃ m, m = P.length + A.length := ⟨_, rfl⟩
 obtain ⟨e, he⟩ : ∃ e, e = P.length + A.length + B.length := ⟨_, rfl⟩
 obtain ⟨N, hN⟩ : ∃ N, N = M + m := ⟨_, rfl⟩
 rw [← he] at hh b3 b4 hM ⊢
 rw [← hm] at gB b1 b2 b3 b4 b5 ⊢
 rw [← hp] at gA b1 hh hM b4 ⊢
 rw [← hN] at b2 b3 b4
 unfold srMerge_j3
 rw [hh, gd_pos (okI64 (by omega) (by omega))]
 obtain ⟨i, i1, i2, i3, i4, hi'⟩ := bs_l5 n rc l js (by omega) (a := p) (m := m) (b := e) N (by omega) (by omega) (by omega) lo hi (by omega) (by omega) (by omega) (fun s t s1 st t1 ht => by
  obtain ⟨s', rfl⟩ : ∃ s', s = p + s' := ⟨s - p, by omega⟩
  obtain ⟨t', rfl⟩ : ∃ t', t = p + t' := ⟨t - p, by omega⟩
  obtain ⟨u, hu⟩ : ∃ u, N - 1 - (p + s') = m + u := ⟨N - 1 - (p + s') - m, by omega⟩
  obtain ⟨v, hv⟩ : ∃ v, N - 1 - (p + t') = m + v := ⟨N - 1 - (p + t') - m, by omega⟩
  rw [hv, gA _ (by omega), gB _ (by omega)] at ht
  rw [hu, gA _ (by omega), gB _ (by omega)]
  exact ltl_tr (ltl_tr (sA.at (by omega) (by omega)) ht) (sB.at (by omega) (by omega))) n lo hi (Nat.le_refl _) (by omega) (Nat.le_refl _) (by omega) (fun t t1 t2 => by omega) (fun t t1 t2 => by omega)
 rw [hi']
 obtain ⟨A1, A2, hAe, hlA⟩ := cut_at A (i - p) (by omega)
 obtain ⟨B1, B2, hBe, hlB⟩ := cut_at B (N - i - m) (by omega)
 have lA : A.length = A1.length + A2.length := by rw [hAe, List.length_append]
 have lB : B.length = B1.length + B2.length := by rw [hBe, List.length_append]
 have gA1 : ∀ t, t < A1.length → js.getD (p + t) 0 = A1.getD t 0 := fun t ht => by
  rw [gA t (by omega), hAe, List.getD_eq_getElem?_getD, List.getElem?_append_left ht, ← List.getD_eq_getElem?_getD]
 have gA2 : ∀ t, t < A2.length → js.getD (i + t) 0 = A2.getD t 0 := fun t ht => by
  have := gA (A1.length + t) (by omega)
  rw [show p + (A1.length + t) = i + t by omega] at this
  rw [this, hAe, List.getD_eq_getElem?_getD, List.getElem?_append_right (by omega), Nat.add_sub_cancel_left, ← List.getD_eq_getElem?_getD]
 have gB1 : ∀ t, t < B1.length → js.getD (m + t) 0 = B1.getD t 0 := fun t ht => by
  rw [gB t (by omega), hBe, List.getD_eq_getElem?_getD, List.getElem?_append_left ht, ← List.getD_eq_getElem?_getD]
 have gB2 : ∀ t, t < B2.length → js.getD (N - i + t) 0 = B2.getD t 0 := fun t ht => by
  have := gB (B1.length + t) (by omega)
  rw [show m + (B1.length + t) = N - i + t by omega] at this
  rw [this, hBe, List.getD_eq_getElem?_getD, List.getElem?_append_right (by omega), Nat.add_sub_cancel_left, ← List.getD_eq_getElem?_getD]
 rw [hAe] at sA
 rw [hBe] at sB
 obtain ⟨sa1, sa2, sa3⟩ := Sr_app.1 sA
 obtain ⟨sb1, sb2, sb3⟩ := Sr_app.1 sB
 -- what comes first is no more than what comes behind
 have c1 : ∀ x ∈ A1, ∀ y ∈ B2, ltl l y x = false := fun x hx y hy => by
  obtain ⟨t, ht, rfl⟩ := mem_at hx
  obtain ⟨u, hu, rfl⟩ := mem_at hy
  have hlo : lo < i := by omega
  have h5 := i3 (i - 1) (by omega) (by omega)
  rw [show N - 1 - (i - 1) = N - i + 0 by omega, gB2 0 (by omega), show i - 1 = p + (A1.length - 1) by omega, gA1 _ (by omega)] at h5
  exact ltl_tr (ltl_tr (sa1.at (by omega) (by omega)) h5) (sb2.at (Nat.zero_le _) hu)
 have c2 : ∀ x ∈ B1, ∀ y ∈ A2, ltl l y x = false := fun x hx y hy => by
  obtain ⟨t, ht, rfl⟩ := mem_at hx
  obtain ⟨u, hu, rfl⟩ := mem_at hy
  have hhi : i < hi := by omega
  have h5 := i4 i (by omega) (by omega)
  rw [show N - 1 - i = m + (B1.length - 1) by omega, gB1 _ (by omega), show js.getD i 0 = js.getD (i + 0) 0 from rfl, gA2 0 (by omega)] at h5
  exact ltl_tr (ltl_tr (sb1.at (by omega) (by omega)) (ltl_as h5)) (sa2.at (Nat.zero_le _) hu)
 rw [hjs, hAe, hBe]
 have hfin := merge_cut (n := n) ih (A1 := A1) (A2 := A2) (B1 := B1) (B2 := B2) (S := S) (P := P) (a := (p : Int)) (m := (m : Int)) (b := (e : Int)) (i := (i : Int)) (M := M) (E := N - i) hh (by omega) (by omega) (by omega) (by omega) (by omega) (by omega) (by omega) (by omega) (by omega) (by omega) (by omega) sA sB c1 c2
 simp only [List.append_assoc] at hfin ⊢
 exact hfin
theorem merge_is (l : List (List UInt8)) : ∀ n : Nat, MI l n (srMerge n)
 | 0, A, B, P, S, _, _, _, hA, _, _, _, h, _, _, _, _ => by omega
 | n + 1, A, B, P, S, _, _, _, hA, hB, sA, sB, hn, rfl, rfl, rfl, h4 => by
  have ha := List.length_pos_iff.2 hA
  have hb := List.length_pos_iff.2 hB
  rw [srMerge, gd_pos (okI64 (by omega) (by omega))]
  by_cases h1 : A.length = 1
  ·obtain ⟨x, rfl⟩ := List.length_eq_one_iff.1 h1
   rw [ite_t (by rw [beq_iff_eq]; simp only [List.length_singleton]; omega)]
   exact merge_one (srMerge n) sB (by omega) (by simp only [List.length_singleton] at h4; omega)
  ·rw [ite_f (by rw [beq_eq_false_iff_ne]; omega), gd_pos (okI64 (by omega) (by omega))]
   by_cases h2 : B.length = 1
   ·obtain ⟨x, rfl⟩ := List.length_eq_one_iff.1 h2
    rw [ite_t (by rw [beq_iff_eq]; simp only [List.length_singleton]; omega)]
    exact merge_last (srMerge n) sA (by omega) (by simp only [List.length_singleton] at h4; omega)
   ·rw [ite_f (by rw [beq_eq_false_iff_ne]; omega), gd_pos (okI64 (by omega) (by omega)), gd_pos (by decide)]
    obtain ⟨M, hM⟩ : ∃ M, M = (P.length + (P.length + A.length + B.length)) / 2 := ⟨_, rfl⟩
    have hh := half_is (s := P.length + (P.length + A.length + B.length)) (i := (P.length : Int) + ((P.length + A.length + B.length : Nat) : Int)) (by omega) (by omega)
    rw [← hM] at hh
    rw [hh, gd_pos (okI64 (by omega) (by omega))]
    by_cases hc : M < P.length + A.length
    ·rw [ite_t (decide_eq_true (by omega)), gd_pos (okI64 (by omega) (by omega))]
     rw [show ((M : Int) + ((P.length + A.length : Nat) : Int)) - ((P.length + A.length + B.length : Nat) : Int) = ((M + (P.length + A.length) - (P.length + A.length + B.length) : Nat) : Int) by omega]
     exact merge_key (merge_is l n) hM sA sB (by omega) (by omega) (by omega) (Nat.le_refl _) h4 (by omega) (by omega) (by omega) (by omega) (by omega)
    ·rw [ite_f (decide_eq_false (by omega))]
     exact merge_key (merge_is l n) hM sA sB (by omega) (by omega) (by omega) (Nat.le_refl _) h4 (by omega) (by omega) (by omega) (by omega) (by omega)
end Go.Sx
end
section
namespace Go.Sx
open Go Go.RowKit Go.Ch Go.Proofs.Ytliilihbnhdemaa
theorem ins_l2 (n : Nat) (l : List (List UInt8)) (js : List Nat) (hj : js.length ≤ 100000) (y : Nat) (T : List Nat) (a1 a2 i8 : Int) (hi8 : 0 ≤ i8 ∧ i8 ≤ 1000000) (k : List Nat → Int → Option (List Nat)) : ∀ (c : Nat) (X1 X2 P : List Nat) (fu : Nat) (i : Int), X1.length = c → c < fu → i = ((P.length + X1.length : Nat) : Int) → a1 = (P.length : Int) →
  js.length = P.length + X1.length + 1 + X2.length + T.length → Sr l (X1 ++ X2) → (∀ z ∈ X2, ltl l y z = true) →
  ∃ C, srIns_l2 n l js a1 a2 i8 k fu (P ++ (X1 ++ (y :: (X2 ++ T)))) i = k (P ++ (C ++ T)) (i8 + 1) ∧ C.Perm (X1 ++ y :: X2) ∧ Sr l C
 | _, _, _, _, 0, _, _, h, _, _, _, _, _ => by omega
 | 0, X1, X2, P, fu + 1, i, hc, _, hi, ha, hl, hs, hy => by
  obtain rfl := List.eq_nil_of_length_eq_zero hc
  simp only [List.length_nil, Nat.add_zero] at hi
  rw [srIns_l2, ite_f (decide_eq_false (by omega)), gd_pos (okI64 (by omega) (by omega))]
  exact ⟨y :: X2, by simp, by simp, List.pairwise_cons.2 ⟨fun z hz => ltl_as (hy z hz), hs⟩⟩
 | c + 1, X1, X2, P, fu + 1, i, hc, hf, hi, ha, hl, hs, hy => by
  obtain ⟨X, z, rfl⟩ : ∃ X z, X1 = X ++ [z] := by
   have hne : X1 ≠ [] := by rintro rfl; simp at hc
   exact ⟨X1.dropLast, X1.getLast hne, (List.dropLast_concat_getLast hne).symm⟩
  rw [List.length_append, List.length_singleton] at hc hi hl
  rw [srIns_l2, ite_t (decide_eq_true (by omega)), gd_pos (by omega), gd_pos (by omega), gd_pos (okI64 (by omega) (by omega)), gd_pos (by omega), gd_pos (by omega)]
  have e0 : P ++ (X ++ [z] ++ (y :: (X2 ++ T))) = (P ++ X) ++ z :: (y :: (X2 ++ T)) := by simp
  have t1 : i.toNat = P.length + X.length + 1 := by omega
  have t2 : (i - 1).toNat = P.length + X.length := by omega
  have g1 : (P ++ (X ++ [z] ++ (y :: (X2 ++ T)))).getD (P.length + X.length + 1) 0 = y := by
   rw [show P ++ (X ++ [z] ++ (y :: (X2 ++ T))) = (P ++ X ++ [z]) ++ y :: (X2 ++ T) by simp]
   exact get_mid _ _ _ (by simp only [List.length_append, List.length_singleton])
  have g2 : (P ++ (X ++ [z] ++ (y :: (X2 ++ T)))).getD (P.length + X.length) 0 = z := by
   rw [e0]
   exact get_mid _ _ _ (by simp only [List.length_append])
  rw [t1, t2, cmp_ltl, g1, g2]
  cases hlt : ltl l y z with
  | false =>
   rw [cond_false, gd_pos (okI64 (by omega) (by omega))]
   refine ⟨X ++ [z] ++ y :: X2, by simp, .refl _, ?_⟩
   rw [Sr_app]
   obtain ⟨s1, s2, s3⟩ := Sr_app.1 hs
   refine ⟨s1, List.pairwise_cons.2 ⟨fun w hw => ltl_as (hy w hw), s2⟩, fun u hu w hw => ?_⟩
   rcases List.mem_cons.1 hw with rfl | hw
   ·-- before the place: all are no more than z, and z is no more than y
    rcases List.mem_append.1 hu with hu | hu
    ·exact ltl_tr ((Sr_app.1 s1).2.2 u hu z (List.mem_singleton.2 rfl)) hlt
    ·rw [List.mem_singleton.1 hu]; exact hlt
   ·exact s3 u hu w hw
  | true =>
   rw [cond_true, gd_pos (okI64 (by omega) (by omega)), gd_pos (okI64 (by omega) (by omega)), gd_pos (by omega), gd_pos (by omega), gd_pos (by omega), gd_pos (by omega), gd_pos (by omega), gd_pos (by omega), gd_pos (by omega), gd_pos (by omega), gd_pos (okI64 (by omega) (by omega))]
   have e := swp2' (pre := P ++ X) (mid := []) (post := X2 ++ T) (x := z) (y := y) (p := P.length + X.length) (q := P.length + X.length + 1) (by simp only [List.length_append]) (by simp)
   rw [List.nil_append, List.nil_append] at e
   have e1 : ((P ++ (X ++ [z] ++ (y :: (X2 ++ T)))).set (P.length + X.length + 1) z).set (P.length + X.length) y = P ++ (X ++ (y :: ((z :: X2) ++ T))) := by
    have := e
    rw [e0] at g1 g2
    rw [g1, g2] at this
    rw [e0, this]; simp
   rw [e1]
   obtain ⟨s1, s2, s3⟩ := Sr_app.1 hs
   have hs' : Sr l (X ++ z :: X2) := by rw [show X ++ z :: X2 = X ++ [z] ++ X2 by simp]; exact hs
   obtain ⟨C, h1, h2, h3⟩ := ins_l2 n l js hj y T a1 a2 i8 hi8 k c X (z :: X2) P fu (i - 1) (by omega) (by omega) (by omega) ha (by rw [List.length_cons]; omega) hs' (fun w hw => by
    rcases List.mem_cons.1 hw with rfl | hw
    ·exact hlt
    ·exact hy w hw)
   refine ⟨C, h1, h2.trans ?_, h3⟩
   rw [List.append_assoc]
   exact List.Perm.append_left X (List.Perm.swap z y X2)
theorem ins_l1 (n : Nat) (l : List (List UInt8)) (js : List Nat) (hj : js.length ≤ 100000) (T : List Nat) (a1 a2 : Int) : ∀ (Y X P : List Nat) (fu : Nat) (i8 : Int), Y.length < fu → i8 = ((P.length + X.length : Nat) : Int) → a1 = (P.length : Int) → a2 = ((P.length + X.length + Y.length : Nat) : Int) → X.length + Y.length < n →
  js.length = P.length + X.length + Y.length + T.length → Sr l X →
  ∃ C, srIns_l1 n l js a1 a2 fu (P ++ (X ++ (Y ++ T))) i8 = some (P ++ (C ++ T)) ∧ C.Perm (X ++ Y) ∧ Sr l C
 | _, _, _, 0, _, h, _, _, _, _, _, _ => by omega
 | [], X, P, fu + 1, i8, _, hi, ha, h2, _, hl, hs => by
  simp only [List.length_nil] at h2
  rw [srIns_l1, ite_f (decide_eq_false (by omega))]
  exact ⟨X, rfl, by simp, hs⟩
 | y :: Y, X, P, fu + 1, i8, hf, hi, ha, h2, hn, hl, hs => by
  simp only [List.length_cons] at hf h2 hl hn
  rw [srIns_l1, ite_t (decide_eq_true (by omega))]
  obtain ⟨C, h1, h3, h4⟩ := ins_l2 n l js hj y (Y ++ T) a1 a2 i8 ⟨by omega, by omega⟩ (srIns_l1 n l js a1 a2 fu) X.length X [] P n i8 rfl (by omega) hi ha (by rw [List.length_nil, List.length_append]; omega) (by rw [List.append_nil]; exact hs) (fun z hz => by cases hz)
  rw [List.nil_append] at h1
  have hcl := h3.length_eq
  rw [List.length_append, List.length_singleton] at hcl
  obtain ⟨D, h5, h6, h7⟩ := ins_l1 n l js hj T a1 a2 Y C P fu (i8 + 1) (by omega) (by omega) ha (by omega) (by omega) (by omega) h4
  refine ⟨D, ?_, ?_, h7⟩
  ·rw [show P ++ (X ++ (y :: Y ++ T)) = P ++ (X ++ (y :: (Y ++ T))) from rfl, h1, h5]
  ·refine h6.trans ((h3.append_right Y).trans ?_)
   simp
theorem ins_is {n : Nat} (l : List (List UInt8)) {X P T : List Nat} {a1 a2 : Int} (ha : a1 = (P.length : Int)) (hb : a2 = ((P.length + X.length : Nat) : Int)) (hn : X.length + 1 < n) (hl : P.length + X.length + T.length ≤ 100000) :
  ∃ C, srIns n l (P ++ (X ++ T)) a1 a2 = some (P ++ (C ++ T)) ∧ C.Perm X ∧ Sr l C := by
 unfold srIns
 rw [gd_pos (okI64 (by omega) (by omega))]
 cases X with
 | nil =>
  simp only [List.length_nil] at hb
  obtain ⟨m, rfl⟩ : ∃ m, n = m + 1 := ⟨n - 1, by omega⟩
  rw [srIns_l1, ite_f (decide_eq_false (by omega))]
  exact ⟨[], rfl, .refl _, List.Pairwise.nil⟩
 | cons x X =>
  simp only [List.length_cons] at hb hn hl
  exact ins_l1 n l (P ++ (x :: X ++ T)) (by simp only [List.length_append, List.length_cons]; omega) T a1 a2 X [x] P n (a1 + 1) (by omega) (by rw [List.length_singleton]; omega) ha (by rw [List.length_singleton]; omega) (by rw [List.length_singleton]; omega) (by simp only [List.length_append, List.length_cons, List.length_nil]; omega) (List.pairwise_singleton _ _)
def Bks (l : List (List UInt8)) (w : Nat) (bs : List (List Nat)) : Prop := ∀ B ∈ bs, B.length = w ∧ Sr l B
theorem Bks.nil {l : List (List UInt8)} {w : Nat} : Bks l w [] := fun _ h => by cases h
theorem Bks.cons {l : List (List UInt8)} {w : Nat} {B : List Nat} {bs : List (List Nat)} (h : B.length = w) (hs : Sr l B) (hb : Bks l w bs) : Bks l w (B :: bs) := fun C hC => by
 rcases List.mem_cons.1 hC with rfl | hC
 ·exact ⟨h, hs⟩
 ·exact hb C hC
theorem Bks.len {l : List (List UInt8)} {w : Nat} : ∀ {bs : List (List Nat)}, Bks l w bs → bs.flatten.length = bs.length * w
 | [], _ => by simp
 | B :: bs, h => by
  rw [List.flatten_cons, List.length_append, Bks.len (fun C hC => h C (List.mem_cons_of_mem _ hC)), (h B List.mem_cons_self).1, List.length_cons, Nat.succ_mul]; omega
theorem st_l2 (n : Nat) (l : List (List UInt8)) (js : List Nat) (a1 : Int) (w : Nat) (hw : 0 < w ∧ w ≤ 100000) (k : List Nat → Int → Option (List Nat)) : ∀ (c : Nat) (bs : List (List Nat)) (last P : List Nat) (fu : Nat) (i7 i8 : Int), bs.length ≤ c → c < fu → Bks l w bs → Sr l last → last.length < w → i7 = (P.length : Int) → i8 = ((P.length + 2 * w : Nat) : Int) → a1 = ((P.length + bs.flatten.length + last.length : Nat) : Int) →
  P.length + bs.flatten.length + last.length ≤ 100000 → P.length + bs.flatten.length + last.length + 200 ≤ n →
  ∃ bs' last', srStable_l2 n l js a1 (w : Int) k fu (P ++ (bs.flatten ++ last)) i7 i8 = k (P ++ (bs'.flatten ++ last')) ((2 * w : Nat) : Int) ∧ Bks l (2 * w) bs' ∧ Sr l last' ∧ last'.length < 2 * w ∧ (bs'.flatten ++ last').Perm (bs.flatten ++ last)
 | _, _, _, _, 0, _, _, _, h, _, _, _, _, _, _, _, _ => by omega
 | c, [], last, P, fu + 1, i7, i8, _, _, _, hs, hl, h7, h8, ha, h4, hn => by
  simp only [List.flatten_nil, List.length_nil] at ha h4 hn
  rw [srStable_l2, ite_f (decide_eq_false (by omega))]
  unfold srStable_j2
  rw [gd_pos (okI64 (by omega) (by omega)), ite_f (decide_eq_false (by omega))]
  unfold srStable_j3
  rw [gd_pos (okI64 (by omega) (by omega)), show ((w : Int) * 2) = ((2 * w : Nat) : Int) by omega]
  exact ⟨[], last, rfl, Bks.nil, hs, by omega, .refl _⟩
 | c, [B], last, P, fu + 1, i7, i8, _, _, hB, hs, hl, h7, h8, ha, h4, hn => by
  obtain ⟨b1, b2⟩ := hB B List.mem_cons_self
  simp only [List.flatten_cons, List.flatten_nil, List.append_nil] at ha h4 hn ⊢
  rw [srStable_l2, ite_f (decide_eq_false (by omega))]
  unfold srStable_j2
  rw [gd_pos (okI64 (by omega) (by omega))]
  by_cases e : last.length = 0
  ·obtain rfl := List.eq_nil_of_length_eq_zero e
   simp only [List.length_nil] at ha
   rw [ite_f (decide_eq_false (by omega))]
   unfold srStable_j3
   rw [gd_pos (okI64 (by omega) (by omega)), show ((w : Int) * 2) = ((2 * w : Nat) : Int) by omega]
   exact ⟨[], B, by simp, Bks.nil, b2, by omega, by simp⟩
  ·rw [ite_t (decide_eq_true (by omega))]
   obtain ⟨C, h1, h2, h3⟩ := merge_is l n B last P [] i7 (i7 + (w : Int)) a1 (List.length_pos_iff.1 (by omega)) (List.length_pos_iff.1 (by omega)) b2 hs (by omega) h7 (by omega) (by omega) (by rw [List.length_nil]; omega)
   rw [List.append_nil, List.append_nil] at h1
   rw [h1, Option.bind_some]
   unfold srStable_j3
   rw [gd_pos (okI64 (by omega) (by omega)), show ((w : Int) * 2) = ((2 * w : Nat) : Int) by omega]
   have := h2.length_eq
   rw [List.length_append] at this
   exact ⟨[], C, by simp, Bks.nil, h3, by omega, by simpa using h2⟩
 | c, B1 :: B2 :: bs, last, P, fu + 1, i7, i8, hc, hf, hB, hs, hl, h7, h8, ha, h4, hn => by
  obtain ⟨b1, b2⟩ := hB B1 List.mem_cons_self
  obtain ⟨b3, b4⟩ := hB B2 (List.mem_cons_of_mem _ List.mem_cons_self)
  simp only [List.flatten_cons, List.length_append, List.length_cons] at ha h4 hn hc
  rw [srStable_l2, ite_t (decide_eq_true (by omega)), gd_pos (okI64 (by omega) (by omega))]
  obtain ⟨C, h1, h2, h3⟩ := merge_is l n B1 B2 P (bs.flatten ++ last) i7 (i7 + (w : Int)) i8 (List.length_pos_iff.1 (by omega)) (List.length_pos_iff.1 (by omega)) b2 b4 (by omega) h7 (by omega) (by omega) (by rw [List.length_append]; omega)
  rw [show P ++ ((B1 :: B2 :: bs).flatten ++ last) = P ++ (B1 ++ (B2 ++ (bs.flatten ++ last))) by simp, h1, Option.bind_some, gd_pos (okI64 (by omega) (by omega)), gd_pos (okI64 (by omega) (by omega))]
  have hlC := h2.length_eq
  rw [List.length_append] at hlC
  obtain ⟨bs', last', r1, r2, r3, r4, r5⟩ := st_l2 n l js a1 w hw k (c - 2) bs last (P ++ C) fu i8 (i8 + 2 * (w : Int)) (by omega) (by omega) (fun B hb => hB B (List.mem_cons_of_mem _ (List.mem_cons_of_mem _ hb))) hs hl (by rw [List.length_append]; omega) (by rw [List.length_append]; omega) (by rw [List.length_append]; omega) (by rw [List.length_append]; omega) (by rw [List.length_append]; omega)
  refine ⟨C :: bs', last', ?_, Bks.cons (by omega) h3 r2, r3, r4, ?_⟩
  ·rw [← List.append_assoc P C, r1]
   simp
  ·have := h2.append r5
   simpa using this
theorem st_l1 (n : Nat) (l : List (List UInt8)) (js : List Nat) (a1 : Int) : ∀ (fu : Nat) (bs : List (List Nat)) (last : List Nat) (w : Nat), 0 < fu → 20 ≤ w → w ≤ 200000 → Bks l w bs → Sr l last → last.length < w → a1 = ((bs.flatten.length + last.length : Nat) : Int) →
  bs.flatten.length + last.length ≤ 100000 → bs.flatten.length + last.length + 200 ≤ n → bs.flatten.length + last.length + 20 ≤ w + fu →
  ∃ C, srStable_l1 n l js a1 fu (bs.flatten ++ last) (w : Int) = some C ∧ C.Perm (bs.flatten ++ last) ∧ Sr l C
 | 0, _, _, _, h, _, _, _, _, _, _, _, _, _ => by omega
 | fu + 1, bs, last, w, _, hw, hw2, hB, hs, hl, ha, h4, hn, hf => by
  have hlen := hB.len
  by_cases e : w < bs.flatten.length + last.length
  ·rw [srStable_l1, ite_t (decide_eq_true (by omega)), gd_pos (okI64 (by omega) (by omega))]
   have hbl : bs.length ≤ bs.flatten.length := by rw [hlen]; exact Nat.le_mul_of_pos_right _ (by omega)
   obtain ⟨bs', last', r1, r2, r3, r4, r5⟩ := st_l2 n l js a1 w (by omega) (srStable_l1 n l js a1 fu) bs.length bs last [] n 0 (2 * (w : Int)) (Nat.le_refl _) (by omega) hB hs hl (by simp) (by simp) (by simpa using ha) (by simpa using h4) (by simpa using hn)
   rw [List.nil_append, List.nil_append] at r1
   rw [r1]
   have := r5.length_eq
   rw [List.length_append, List.length_append] at this
   obtain ⟨C, c1, c2, c3⟩ := st_l1 n l js a1 fu bs' last' (2 * w) (by omega) (by omega) (by omega) r2 r3 r4 (by omega) (by omega) (by omega) (by omega)
   exact ⟨C, c1, c2.trans r5, c3⟩
  ·rw [srStable_l1, ite_f (decide_eq_false (by omega))]
   refine ⟨_, rfl, .refl _, ?_⟩
   match bs, hB, hlen, e with
   | [], _, _, _ => simpa using hs
   | [B], hB, hlen, e =>
    obtain ⟨b1, b2⟩ := hB B List.mem_cons_self
    simp only [List.length_singleton, Nat.one_mul] at hlen
    obtain rfl : last = [] := List.eq_nil_of_length_eq_zero (by omega)
    simpa using b2
   | _ :: _ :: bs, hB, hlen, e =>
    simp only [List.length_cons] at hlen
    have : (bs.length + 1 + 1) * w = bs.length * w + w + w := by rw [Nat.succ_mul, Nat.succ_mul]
    omega
theorem st_l3 (n : Nat) (l : List (List UInt8)) (js : List Nat) (a1 : Int) : ∀ (fu : Nat) (R P : List Nat) (i7 i8 : Int), R.length < 20 * fu → i7 = (P.length : Int) → i8 = ((P.length + 20 : Nat) : Int) → a1 = ((P.length + R.length : Nat) : Int) → P.length + R.length ≤ 100000 → R.length + 200 ≤ n →
  ∃ bs R', srStable_l3 n l js a1 fu (P ++ R) i7 i8 = srStable_j1 n l js a1 (P ++ (bs.flatten ++ R')) ((P.length + bs.flatten.length : Nat) : Int) ∧ Bks l 20 bs ∧ R'.length < 20 ∧ (bs.flatten ++ R').Perm R
 | 0, _, _, _, _, h, _, _, _, _, _ => by omega
 | fu + 1, R, P, i7, i8, hf, h7, h8, ha, h4, hn => by
  by_cases e : 20 ≤ R.length
  ·rw [srStable_l3, ite_t (decide_eq_true (by omega))]
   obtain ⟨B, R2, rfl, hB⟩ := cut_at R 20 e
   rw [List.length_append] at hf ha h4 hn
   obtain ⟨C, h1, h2, h3⟩ := ins_is l (X := B) (P := P) (T := R2) (a1 := i7) (a2 := i8) (n := n) h7 (by omega) (by omega) (by omega)
   rw [h1, Option.bind_some, gd_pos (okI64 (by omega) (by omega))]
   have hlC := h2.length_eq
   obtain ⟨bs, R', r1, r2, r3, r4⟩ := st_l3 n l js a1 fu R2 (P ++ C) i8 (i8 + 20) (by omega) (by rw [List.length_append]; omega) (by rw [List.length_append]; omega) (by rw [List.length_append]; omega) (by rw [List.length_append]; omega) (by omega)
   refine ⟨C :: bs, R', ?_, Bks.cons (by omega) h3 r2, r3, ?_⟩
   ·rw [← List.append_assoc P C, r1]
    simp only [List.append_assoc, List.flatten_cons, List.length_append, Nat.add_assoc]
   ·rw [List.flatten_cons, List.append_assoc]
    exact h2.append r4
  ·rw [srStable_l3, ite_f (decide_eq_false (by omega)), h7]
   exact ⟨[], R, by simp, Bks.nil, by omega, by simp⟩
theorem sort_is (l : List (List UInt8)) (js : List Nat) {n : Nat} (h : js.length ≤ 100000) (hn : js.length + 200 ≤ n) : ∃ C, srSort n l js = some C ∧ C.Perm js ∧ Sr l C := by
 unfold srSort srStable
 obtain ⟨bs, R, r1, r2, r3, r4⟩ := st_l3 n l js ((js.length : Nat) : Int) n js [] 0 20 (by omega) rfl (by simp) (by simp) (by simpa using h) hn
 rw [List.nil_append, List.nil_append] at r1
 rw [r1]
 have hl := r4.length_eq
 rw [List.length_append] at hl
 unfold srStable_j1
 obtain ⟨C, h1, h2, h3⟩ := ins_is l (X := R) (P := bs.flatten) (T := []) (a1 := ((([] : List Nat).length + bs.flatten.length : Nat) : Int)) (a2 := ((js.length : Nat) : Int)) (n := n) (by simp) (by omega) (by omega) (by rw [List.length_nil]; omega)
 rw [List.append_nil, List.append_nil] at h1
 rw [h1, Option.bind_some]
 have hlC := h2.length_eq
 obtain ⟨D, d1, d2, d3⟩ := st_l1 n l js ((js.length : Nat) : Int) n bs C 20 (by omega) (Nat.le_refl _) (by omega) r2 h3 (by omega) (by omega) (by omega) (by omega) (by omega)
 rw [show (20 : Int) = ((20 : Nat) : Int) from rfl, d1, Option.bind_some]
 exact ⟨D, rfl, d2.trans ((List.Perm.append_left _ h2).trans r4), d3⟩
end Go.Sx
end
section
namespace Go.Sx
open Go Go.RowKit Go.Ch Go.Proofs.Ytliilihbnhdemaa
theorem up8_so : pup 1000 = some true := by decide +kernel
def cn (g : Nat → List UInt8) (x : List UInt8) : Nat → Nat
 | 0 => 0
 | k + 1 => cn g x k + if g k == x then 1 else 0
theorem cn_is (g : Nat → List UInt8) (x : List UInt8) : ∀ k, cn g x k = ((List.range k).map g).count x
 | 0 => rfl
 | k + 1 => by
  rw [cn, List.range_succ, List.map_append, List.count_append, ← cn_is g x k, List.map_singleton, List.count_singleton]
theorem range_get (C : List Nat) : (List.range C.length).map (fun t => C.getD t 0) = C := by
 apply List.ext_getElem
 ·simp
 ·intro i h1 h2
  simp [List.getD_eq_getElem?_getD, h2]
theorem cn_same {C : List Nat} {L : Nat} (h : C.Perm (List.range L)) (l : List (List UInt8)) (x : List UInt8) : cn (fun t => l.getD t []) x L = cn (fun t => l.getD (C.getD t 0) []) x L := by
 have hl : C.length = L := by rw [h.length_eq, List.length_range]
 rw [cn_is, cn_is, show (List.range L).map (fun t => l.getD (C.getD t 0) []) = ((List.range L).map (fun t => C.getD t 0)).map (fun t => l.getD t []) by rw [List.map_map]; rfl, ← hl, range_get]
 have := (h.map (fun t => l.getD t [])).count_eq x
 rw [hl]; exact this.symm
theorem cn_le (g : Nat → List UInt8) (x : List UInt8) : ∀ k, cn g x k ≤ k
 | 0 => Nat.le_refl _
 | k + 1 => by rw [cn]; have := cn_le g x k; split <;> omega
theorem so_l2 (n : Nat) (l : List (List UInt8)) (C : List Nat) (s : Nat) (hs : s < l.length) (hL : l.length ≤ 1000) (he : cn (fun t => l.getD t []) (l.getD (C.getD s 0) []) l.length = cn (fun t => l.getD (C.getD t 0) []) (l.getD (C.getD s 0) []) l.length) (k : Int → Option Bool) : ∀ (fu t : Nat), t ≤ l.length → l.length < t + fu →
  lSorts_l2 n l true C (s : Int) k fu ((cn (fun t => l.getD t []) (l.getD (C.getD s 0) []) t : Nat) : Int) ((cn (fun t => l.getD (C.getD t 0) []) (l.getD (C.getD s 0) []) t : Nat) : Int) (t : Int) = k ((s : Int) + 1)
 | 0, t, h1, h2 => by omega
 | fu + 1, t, h1, h2 => by
  by_cases e : t < l.length
  ·have b1 := cn_le (fun t => l.getD t []) (l.getD (C.getD s 0) []) t
   have b2 := cn_le (fun t => l.getD (C.getD t 0) []) (l.getD (C.getD s 0) []) t
   have ih := so_l2 n l C s hs hL he k fu (t + 1) (by omega) (by omega)
   rw [cn, cn] at ih
   have g1 : (0 : Int) ≤ (t : Int) := by omega
   have g2 : (t : Int) < ((l.length : Nat) : Int) := by omega
   have g3 : (0 : Int) ≤ (s : Int) := by omega
   have g4 : (s : Int) < ((l.length : Nat) : Int) := by omega
   have g5 : okI .i64 ((t : Int) + 1) := okI64 (by omega) (by omega)
   have g6 : okI .i64 (((cn (fun t => l.getD t []) (l.getD (C.getD s 0) []) t : Nat) : Int) + 1) := okI64 (by omega) (by omega)
   have g7 : okI .i64 (((cn (fun t => l.getD (C.getD t 0) []) (l.getD (C.getD s 0) []) t : Nat) : Int) + 1) := okI64 (by omega) (by omega)
   rw [lSorts_l2, ite_t (decide_eq_true (by omega))]
   simp only [lSorts_j2, lSorts_j1, gd_pos g1, gd_pos g2, gd_pos g3, gd_pos g4, gd_pos g5, gd_pos g6, gd_pos g7, show ((t : Int)).toNat = t by omega, show ((s : Int)).toNat = s by omega]
   have et : ((t + 1 : Nat) : Int) = (t : Int) + 1 := by omega
   rw [et] at ih
   by_cases c1 : (l.getD t [] == l.getD (C.getD s 0) []) = true
   ·rw [if_pos c1] at ih
    rw [ite_t c1]
    by_cases c2 : (l.getD (C.getD t 0) [] == l.getD (C.getD s 0) []) = true
    ·rw [if_pos c2] at ih
     rw [ite_t c2]
     exact ih
    ·rw [if_neg c2] at ih
     rw [ite_f (by simpa using c2)]
     exact ih
   ·rw [if_neg c1] at ih
    rw [ite_f (by simpa using c1)]
    by_cases c2 : (l.getD (C.getD t 0) [] == l.getD (C.getD s 0) []) = true
    ·rw [if_pos c2] at ih
     rw [ite_t c2]
     exact ih
    ·rw [if_neg c2] at ih
     rw [ite_f (by simpa using c2)]
     exact ih
  ·obtain rfl : t = l.length := by omega
   rw [lSorts_l2, ite_f (decide_eq_false (by omega)), he, ite_f (by simp), gd_pos (okI64 (by omega) (by omega))]
theorem so_l3 (n : Nat) (l : List (List UInt8)) (C : List Nat) (s : Nat) (hs : s < l.length) (hL : l.length ≤ 1000) (he : cn (fun t => l.getD t []) (l.getD (C.getD s 0) []) l.length = cn (fun t => l.getD (C.getD t 0) []) (l.getD (C.getD s 0) []) l.length) (k : Int → Option Bool) : ∀ (fu t : Nat), t ≤ l.length → l.length < t + fu →
  lSorts_l3 n l true C (s : Int) k fu ((cn (fun t => l.getD t []) (l.getD (C.getD s 0) []) t : Nat) : Int) ((cn (fun t => l.getD (C.getD t 0) []) (l.getD (C.getD s 0) []) t : Nat) : Int) (t : Int) = k ((s : Int) + 1)
 | 0, t, h1, h2 => by omega
 | fu + 1, t, h1, h2 => by
  by_cases e : t < l.length
  ·have b1 := cn_le (fun t => l.getD t []) (l.getD (C.getD s 0) []) t
   have b2 := cn_le (fun t => l.getD (C.getD t 0) []) (l.getD (C.getD s 0) []) t
   have ih := so_l3 n l C s hs hL he k fu (t + 1) (by omega) (by omega)
   rw [cn, cn] at ih
   have g1 : (0 : Int) ≤ (t : Int) := by omega
   have g2 : (t : Int) < ((l.length : Nat) : Int) := by omega
   have g3 : (0 : Int) ≤ (s : Int) := by omega
   have g4 : (s : Int) < ((l.length : Nat) : Int) := by omega
   have g5 : okI .i64 ((t : Int) + 1) := okI64 (by omega) (by omega)
   have g6 : okI .i64 (((cn (fun t => l.getD t []) (l.getD (C.getD s 0) []) t : Nat) : Int) + 1) := okI64 (by omega) (by omega)
   have g7 : okI .i64 (((cn (fun t => l.getD (C.getD t 0) []) (l.getD (C.getD s 0) []) t : Nat) : Int) + 1) := okI64 (by omega) (by omega)
   rw [lSorts_l3, ite_t (decide_eq_true (by omega))]
   simp only [lSorts_j4, lSorts_j3, gd_pos g1, gd_pos g2, gd_pos g3, gd_pos g4, gd_pos g5, gd_pos g6, gd_pos g7, show ((t : Int)).toNat = t by omega, show ((s : Int)).toNat = s by omega]
   have et : ((t + 1 : Nat) : Int) = (t : Int) + 1 := by omega
   rw [et] at ih
   by_cases c1 : (l.getD t [] == l.getD (C.getD s 0) []) = true
   ·rw [if_pos c1] at ih
    rw [ite_t c1]
    by_cases c2 : (l.getD (C.getD t 0) [] == l.getD (C.getD s 0) []) = true
    ·rw [if_pos c2] at ih
     rw [ite_t c2]
     exact ih
    ·rw [if_neg c2] at ih
     rw [ite_f (by simpa using c2)]
     exact ih
   ·rw [if_neg c1] at ih
    rw [ite_f (by simpa using c1)]
    by_cases c2 : (l.getD (C.getD t 0) [] == l.getD (C.getD s 0) []) = true
    ·rw [if_pos c2] at ih
     rw [ite_t c2]
     exact ih
    ·rw [if_neg c2] at ih
     rw [ite_f (by simpa using c2)]
     exact ih
  ·obtain rfl : t = l.length := by omega
   rw [lSorts_l3, ite_f (decide_eq_false (by omega)), he, ite_f (by simp), gd_pos (okI64 (by omega) (by omega))]
theorem so_l1 (n : Nat) (l : List (List UInt8)) (C : List Nat) (hL : l.length ≤ 100) (hn : 200 ≤ n) (hp : C.Perm (List.range l.length)) (hs : Sr l C) : ∀ (fu s : Nat), s ≤ l.length → l.length < s + fu → lSorts_l1 n l true C fu (s : Int) = some true
 | 0, s, h1, h2 => by omega
 | fu + 1, s, h1, h2 => by
  have hl : C.length = l.length := by rw [hp.length_eq, List.length_range]
  by_cases e : s < l.length
  ·have ih := so_l1 n l C hL hn hp hs fu (s + 1) (by omega) (by omega)
   rw [lSorts_l1, ite_t (decide_eq_true (by omega))]
   by_cases e0 : 0 < s
   ·rw [ite_t (decide_eq_true (by omega)), gd_pos (okI64 (by omega) (by omega)), gd_pos (by omega), gd_pos (by omega), gd_pos (by omega), gd_pos (by omega)]
    rw [show ((s : Int) - 1).toNat = s - 1 by omega, show ((s : Int)).toNat = s by omega]
    have hb := hs.at (s := s - 1) (t := s) (by omega) (by omega)
    have hor : (Op.bytesLess (l.getD (C.getD (s - 1) 0) []) (l.getD (C.getD s 0) []) || (l.getD (C.getD (s - 1) 0) []) == (l.getD (C.getD s 0) [])) = true := by
     cases h3 : Op.bytesLess (l.getD (C.getD (s - 1) 0) []) (l.getD (C.getD s 0) []) with
     | true => rfl
     | false => rw [bl_eq h3 hb]; simp
    rw [hor, ite_f (by rfl)]
    have := so_l2 n l C s e (by omega) (cn_same hp l _) (lSorts_l1 n l true C fu) n 0 (by omega) (by omega)
    rw [cn, cn] at this
    exact this.trans ih
   ·obtain rfl : s = 0 := by omega
    rw [ite_f (decide_eq_false (by omega))]
    have := so_l3 n l C 0 e (by omega) (cn_same hp l _) (lSorts_l1 n l true C fu) n 0 (by omega) (by omega)
    rw [cn, cn] at this
    exact this.trans ih
  ·rw [lSorts_l1, ite_f (decide_eq_false (by omega))]
theorem lSorts_is (l : List (List UInt8)) : lSorts 1000 l = some true := by
 unfold lSorts
 rw [up8_so, Option.bind_some]
 by_cases h0 : 60 < l.length
 ·rw [ite_t (decide_eq_true (by omega))]
 ·rw [ite_f (decide_eq_false (by omega)), gd_pos (by omega)]
  obtain ⟨C, h1, h2, h3⟩ := sort_is l (List.range l.length) (n := 1000) (by rw [List.length_range]; omega) (by rw [List.length_range]; omega)
  rw [h1, Option.bind_some, ite_f (by simp)]
  exact so_l1 1000 l C (by omega) (by omega) h2 h3 1000 0 (by omega) (by omega)
end Go.Sx
end
section
namespace Go.Sx
open Go Go.RowKit Go.Ch Go.Proofs.Ytliilihbnhdemaa
end Go.Sx
namespace Go.Proofs.Ytliilihbnhdemaa
open Go.RowKit Go.Ch Go.Sx
theorem primSorts_c (w : World) (v0 : Value) (l0 : List (List UInt8)) (q0 : Pl) (hq0 : v0 = .slice q0.A q0.n q0.cap) (ho0 : ∀ ρ, objR ρ w q0 ⟨.dp false, 22, 1, l0.length, .d (.by 5) l0⟩) :
  Calls Try.prog 11 #[v0] w (Ret fun v' w' => Ext w w' ∧ v' = .bool true) := by
 exact law_of (lSorts_ok 1000 true) (args := [.c (.wh 0)]) (H := [⟨.dp false, 22, 1, l0.length, .d (.by 5) l0⟩]) (ρ := plL [q0]) (vals := [v0]) rfl (allP_cons.2 ⟨lSorts_is l0, allP_nil⟩) trivial (hpL (ps := [q0]) (F2.cons ho0 F2.nil)) (F2.cons hq0 F2.nil)
end Go.Proofs.Ytliilihbnhdemaa
end
section
namespace Go.Sx
open Go Go.ChangeShapes Go.WideShapes Go.RowKit Go.Ch
def bInt (P : Program) (k : IntKind) (t : TypeId) : Bool := match P.underlying t with | some (.int k') => decide (k' = k) | _ => false
def bSlI (P : Program) (k : IntKind) (t : TypeId) : Bool := match P.underlying t with | some (.slice e) => bInt P k e && P.cellsOf e == 1 | _ => false
def bSl (P : Program) (sz : Nat) (f : TypeId → Bool) (t : TypeId) : Bool := match P.underlying t with | some (.slice e) => P.cellsOf e == sz && f e | _ => false
def bF1 (P : Program) (sz : Nat) (f : TypeId → Bool) (fs : List Field) (off : Nat) : Bool := match fs with | [g] => g.offset == off && P.cellsOf g.type == sz && f g.type | _ => false
def bPr (P : Program) (sa : Nat) (f : TypeId → Bool) (g : List Field → Nat → Bool) (fs : List Field) (off : Nat) : Bool := match fs with | h :: r => h.offset == off && P.cellsOf h.type == sa && f h.type && g r (off + sa) | _ => false
def bSt (P : Program) (sz : Nat) (f : List Field → Nat → Bool) (t : TypeId) : Bool := match P.underlying t with | some (.struct fs) => P.cellsOf t == sz && f fs.toList 0 | _ => false
structure Shb where
 t : TypeId → Bool
 f : List Field → Nat → Bool
def shB1 (P : Program) (sz : Nat) (f : TypeId → Bool) : Shb := ⟨f, bF1 P sz f⟩
def shB (P : Program) : Dsh → Shb
 | .u8 => shB1 P 1 (bInt P .u8)
 | .u32 => shB1 P 1 (bInt P .u32)
 | .i64 => shB1 P 1 (bInt P .i64)
 | .by _ => shB1 P 1 (bSlI P .u8)
 | .wo _ => shB1 P 1 (bSlI P .u32)
 | .sl _ x => shB1 P 1 (bSl P x.sz (shB P x).t)
 | .pr a b => ⟨bSt P (a.sz + b.sz) (bPr P a.sz (shB P a).t (shB P b).f), bPr P a.sz (shB P a).t (shB P b).f⟩
section
variable {H : Type} {enc : TypeId × Value → H} {P : Program} {W : World} {base : Nat} {held : Bool}
def OpE (enc : TypeId × Value → H) (P : Program) (W : World) (base : Nat) (held : Bool) (x : Dsh) (t : TypeId) : Prop := ∀ (fuel : Nat) (cs : List Value) (y : DataW H × List MemPlace), DataW.trod enc P W base (fun _ => true) held fuel t cs = some y → ∃ v, RdE W x cs v
theorem op_int {k : IntKind} {t : TypeId} (ht : P.underlying t = some (.int k)) {fuel : Nat} {cs : List Value} {y : DataW H × List MemPlace} (h : DataW.trod enc P W base (fun _ => true) held fuel t cs = some y) : ∃ n, cs = [.int k n] ∧ (Lit.int k n).wf = true := by
 obtain ⟨n, h1, _, h2⟩ := DataW.trod_int ht h
 exact ⟨n, h1, h2⟩
theorem op_u8 {t : TypeId} (ht : P.underlying t = some (.int .u8)) : OpE enc P W base held .u8 t := fun fuel cs y h => by
 obtain ⟨n, rfl, hw⟩ := op_int ht h
 refine ⟨UInt8.ofNat n.toNat, RdE.s1 (fun gv hg => ?_) rfl⟩
 show gv _ = bU _
 rw [hg]
 simp [Lit.wf, IntKind.min, IntKind.max, IntKind.signed, IntKind.bits] at hw
 unfold bU
 congr 1
 simp
 omega
theorem op_u32 {t : TypeId} (ht : P.underlying t = some (.int .u32)) : OpE enc P W base held .u32 t := fun fuel cs y h => by
 obtain ⟨n, rfl, hw⟩ := op_int ht h
 obtain ⟨x, hx⟩ := u32_of_int hw
 exact ⟨x, RdE.s1 (fun gv hg => by show gv _ = w32 _; rw [hg, hx]) rfl⟩
theorem op_i64 {t : TypeId} (ht : P.underlying t = some (.int .i64)) : OpE enc P W base held .i64 t := fun fuel cs y h => by
 obtain ⟨n, rfl, hw⟩ := op_int ht h
 exact ⟨n, RdE.s1 (fun gv hg => by show gv _ = _; rw [hg]) rfl⟩
theorem op_by {t e : TypeId} (e' : TypeId) (ht : P.underlying t = some (.slice e)) (he : P.underlying e = some (.int .u8)) (hc : P.cellsOf e = 1) : OpE enc P W base held (.by e') t := fun fuel cs y h => by
 rcases open_ints ht he hc h with ⟨rfl, _⟩ | ⟨x, l, c, zs, rfl, _, hl, hm, hz, _, hcell, hwz⟩
 ·exact ⟨[], RdE.by e' (sl_of_row (k := .u8) (w := W) (zs := []) (.inl ⟨rfl, rfl, rfl, rfl⟩)).1⟩
 ·obtain ⟨h1, h2⟩ := sl_of_row (k := .u8) (w := W) (zs := zs) (.inr ⟨_, rfl, hl, hm, by simpa using hz, hcell, hwz⟩)
  obtain ⟨l, hl⟩ := bytes_of_ints h2
  exact ⟨l, RdE.by e' (by rw [← hl]; exact h1)⟩
theorem op_wo {t e : TypeId} (e' : TypeId) (ht : P.underlying t = some (.slice e)) (he : P.underlying e = some (.int .u32)) (hc : P.cellsOf e = 1) : OpE enc P W base held (.wo e') t := fun fuel cs y h => by
 rcases open_ints ht he hc h with ⟨rfl, _⟩ | ⟨x, l, c, zs, rfl, _, hl, hm, hz, _, hcell, hwz⟩
 ·exact ⟨[], RdE.wo e' (sl_of_row (k := .u32) (w := W) (zs := []) (.inl ⟨rfl, rfl, rfl, rfl⟩)).1⟩
 ·obtain ⟨h1, h2⟩ := sl_of_row (k := .u32) (w := W) (zs := zs) (.inr ⟨_, rfl, hl, hm, by simpa using hz, hcell, hwz⟩)
  obtain ⟨l, hl, _⟩ := words_of_ints h2
  exact ⟨l, RdE.wo e' (by rw [← hl]; exact h1)⟩
def w2 (W : World) (a : Addr) (off n : Nat) (vs : List Value) : Prop := vs.length = n ∧ ∀ j u, vs[j]? = some u → W.cell? ((a.add off).add j) = some u
theorem w2_of {W : World} {base : Nat} {a : Addr} {off n : Nat} {vs : List Value} (h : W.cells? base (a.add off) n = some vs) : w2 W a off n vs := by
 obtain ⟨_, h1, h2⟩ := World.cells?_some h
 refine ⟨h1, fun j u hu => ?_⟩
 have hj : j < n := by rw [← h1]; exact (List.getElem?_eq_some_iff.1 hu).1
 rw [h2 j hj]; exact hu
theorem op_sl {t e : TypeId} {x : Dsh} (e' : TypeId) (ht : P.underlying t = some (.slice e)) (hc : P.cellsOf e = x.sz) (hx : OpE enc P W base held x e) : OpE enc P W base held (.sl e' x) t := fun fuel cs y h => by
 have hpos := x.sz_pos
 rcases DataW.trod_slice ht h with ⟨rfl, _⟩ | ⟨a, len, cap, elems, rest, n, rfl, rfl, _, hb, hl, hm, hlen, hel, _⟩
 ·refine ⟨([] : List x.T), RdE.sl0 e' (F := fun _ => False) (gv := fun _ => .slice none 0 0) rfl (fun g hg => hg.elim) ⟨none, 0, rfl, Nat.le_refl _, by simp [maxLen], fun _ => rfl, fun ad ha _ => (nomatch ha), fun k y hy => (nomatch hy)⟩⟩
 ·have each : ∀ i, i < len → ∃ vs : List Value, w2 W a (i * x.sz) x.sz vs ∧ ∃ v, RdE W x vs v := fun i hi => by
   have h1 := hel i hi
   rw [List.getElem?_eq_getElem (by omega), hc] at h1
   cases hcs : W.cells? base (a.add (i * x.sz)) x.sz with
   | none => rw [hcs] at h1; cases h1
   | some vs =>
    rw [hcs] at h1
    exact ⟨vs, w2_of hcs, hx n vs _ h1⟩
  have each' : ∀ i, ∃ p : List Value × x.T, i < len → w2 W a (i * x.sz) x.sz p.1 ∧ RdE W x p.1 p.2 := fun i => by
   by_cases hi : i < len
   ·obtain ⟨vs, h1, v, h2⟩ := each i hi
    exact ⟨(vs, v), fun _ => ⟨h1, h2⟩⟩
   ·exact ⟨([], x.df), fun h => absurd h hi⟩
  obtain ⟨pf, hpf⟩ := Classical.axiomOfChoice each'
  let l : List x.T := (List.range len).map fun i => (pf i).2
  have hll : l.length = len := by simp [l]
  let vs : List Value := (List.range (len * x.sz)).map fun j => (pf (j / x.sz)).1.getD (j % x.sz) undef
  have hvl : vs.length = len * x.sz := by simp [vs]
  have hvs : ∀ k g, k < len → g < x.sz → vs[k * x.sz + g]? = (pf k).1[g]? := fun k g hk hg => by
   have h1 : k * x.sz + g < len * x.sz := by
    have := Nat.mul_le_mul_right x.sz (show k + 1 ≤ len by omega)
    rw [Nat.add_mul, Nat.one_mul] at this; omega
   have e1 : (k * x.sz + g) / x.sz = k := by rw [Nat.add_comm, Nat.add_mul_div_right _ _ hpos, Nat.div_eq_of_lt hg, Nat.zero_add]
   have e2 : (k * x.sz + g) % x.sz = g := by rw [Nat.add_comm, Nat.add_mul_mod_self_right, Nat.mod_eq_of_lt hg]
   have hlen2 := ((hpf k hk).1).1
   show ((List.range (len * x.sz)).map fun j => (pf (j / x.sz)).1.getD (j % x.sz) undef)[k * x.sz + g]? = _
   rw [List.getElem?_map, List.getElem?_range h1]
   show some ((pf ((k * x.sz + g) / x.sz)).1.getD ((k * x.sz + g) % x.sz) undef) = _
   rw [e1, e2, List.getD_eq_getElem?_getD, List.getElem?_eq_getElem (by omega)]; rfl
  obtain ⟨F, gv, g1, g2, g3⟩ := DR.mk (w := W) (x := x) (l := l) (A := some a) (cap := cap) e' (by rw [hll]; exact hl) hm (fun h => nomatch h) vs (fun ad had j u hu => by
   injection had with had; subst had
   have hj : j < len * x.sz := by rw [← hvl]; exact (List.getElem?_eq_some_iff.1 hu).1
   have hk : j / x.sz < len := Nat.div_lt_of_lt_mul (by rw [Nat.mul_comm]; exact hj)
   have hg : j % x.sz < x.sz := Nat.mod_lt _ hpos
   have := hvs _ _ hk hg
   rw [Nat.div_add_mod'] at this
   rw [this] at hu
   have h3 := ((hpf _ hk).1).2 _ u hu
   rwa [add_add, Nat.div_add_mod'] at h3) (by rw [hvl, hll]) (fun k y hy => by
   have hk : k < len := by rw [← hll]; exact (List.getElem?_eq_some_iff.1 hy).1
   have hy' : y = (pf k).2 := by
    have : l[k]? = some y := hy
    simp only [l, List.getElem?_map, List.getElem?_range hk, Option.map_some, Option.some.injEq] at this
    exact this.symm
   subst hy'
   obtain ⟨F, gv, d1, d2, d3⟩ := (hpf k hk).2
   exact ⟨F, gv, fun g hg => by rw [d1 g hg, hvs k g hk hg], d2, d3⟩)
  exact ⟨l, RdE.sl0 e' (g1.trans (by rw [hll])) g2 g3⟩
theorem op_struct {t : TypeId} {fs : Array Field} {x : Dsh} (ht : P.underlying t = some (.struct fs)) (hx : ∀ (cs : List Value), cs.length = P.cellsOf t → (∀ f ∈ fs.toList, ∃ n y, DataW.trod enc P W base (fun _ => true) held n f.type ((cs.drop f.offset).take (P.cellsOf f.type)) = some y) → ∃ v, RdE W x cs v) : OpE enc P W base held x t := fun fuel cs y h => by
 obtain ⟨xs, n, _, _, hl, hxl, hel⟩ := DataW.trod_struct ht h
 refine hx cs hl fun f hf => ?_
 obtain ⟨i, hi⟩ := List.mem_iff_getElem?.1 hf
 have h1 := hel i f (by rw [← Array.getElem?_toList]; exact hi)
 have hlt : i < xs.length := by rw [hxl, ← Array.length_toList]; exact (List.getElem?_eq_some_iff.1 hi).1
 rw [List.getElem?_eq_getElem hlt] at h1
 exact ⟨n, _, h1⟩
def OpF (enc : TypeId × Value → H) (P : Program) (W : World) (base : Nat) (held : Bool) (x : Dsh) (fs : List Field) (off : Nat) : Prop := ∀ (cs : List Value), off + x.sz ≤ cs.length → (∀ f ∈ fs, ∃ n y, DataW.trod enc P W base (fun _ => true) held n f.type ((cs.drop f.offset).take (P.cellsOf f.type)) = some y) → ∃ v, RdE W x ((cs.drop off).take x.sz) v
theorem op_f1 {x : Dsh} {f : Field} {off : Nat} (h1 : f.offset = off) (h2 : P.cellsOf f.type = x.sz) (hx : OpE enc P W base held x f.type) : OpF enc P W base held x [f] off := fun cs _ hf => by
 obtain ⟨n, y, h⟩ := hf f (by simp)
 rw [h1, h2] at h
 exact hx n _ y h
theorem op_f2 {a b : Dsh} {f : Field} {fs : List Field} {off : Nat} (h1 : f.offset = off) (h2 : P.cellsOf f.type = a.sz) (ha : OpE enc P W base held a f.type) (hb : OpF enc P W base held b fs (off + a.sz)) : OpF enc P W base held (.pr a b) (f :: fs) off := fun cs hl hf => by
 have hl' : off + (a.sz + b.sz) ≤ cs.length := hl
 obtain ⟨v, hv⟩ := op_f1 h1 h2 ha cs (by omega) (fun g hg => hf g (by simp at hg; simp [hg]))
 obtain ⟨u, hu⟩ := hb cs (by omega) (fun g hg => hf g (by simp [hg]))
 refine ⟨(v, u), RdE.pr ?_ ?_⟩
 ·rw [List.take_take]
  have : min a.sz (Dsh.pr a b).sz = a.sz := by show min a.sz (a.sz + b.sz) = _; omega
  rw [this]; exact hv
 ·rw [List.drop_take, List.drop_drop]
  have : (Dsh.pr a b).sz - a.sz = b.sz := by show a.sz + b.sz - a.sz = _; omega
  rw [this]; exact hu
structure OpOk (enc : TypeId × Value → H) (P : Program) (W : World) (base : Nat) (held : Bool) (x : Dsh) (s : Shb) : Prop where
 t : ∀ t, s.t t = true → OpE enc P W base held x t
 f : ∀ fs off, s.f fs off = true → OpF enc P W base held x fs off
theorem bInt_ok {k : IntKind} {t : TypeId} (h : bInt P k t = true) : P.underlying t = some (.int k) := by
 unfold bInt at h
 split at h
 ·rename_i k' hk; rw [hk, of_decide_eq_true h]
 ·cases h
theorem bSlI_ok {k : IntKind} {t : TypeId} (h : bSlI P k t = true) : ∃ e, P.underlying t = some (.slice e) ∧ P.underlying e = some (.int k) ∧ P.cellsOf e = 1 := by
 unfold bSlI at h
 split at h
 ·rename_i e he
  simp only [Bool.and_eq_true, beq_iff_eq] at h
  exact ⟨e, he, bInt_ok h.1, h.2⟩
 ·cases h
theorem op1 {x : Dsh} {f : TypeId → Bool} (hx : x.sz = 1) (h : ∀ t, f t = true → OpE enc P W base held x t) : OpOk enc P W base held x (shB1 P 1 f) := by
 refine ⟨h, fun fs off hf => ?_⟩
 have hf' : bF1 P 1 f fs off = true := hf
 unfold bF1 at hf'
 split at hf'
 ·simp only [Bool.and_eq_true, beq_iff_eq] at hf'
  exact op_f1 hf'.1.1 (hf'.1.2.trans hx.symm) (h _ hf'.2)
 ·cases hf'
theorem opPr {a b : Dsh} {s s' : Shb} (ha : OpOk enc P W base held a s) (hb : OpOk enc P W base held b s') (fs : List Field) (off : Nat) (h : bPr P a.sz s.t s'.f fs off = true) : OpF enc P W base held (.pr a b) fs off := by
 unfold bPr at h
 split at h
 ·simp only [Bool.and_eq_true, beq_iff_eq] at h
  exact op_f2 h.1.1.1 h.1.1.2 (ha.t _ h.1.2) (hb.f _ _ h.2)
 ·cases h
theorem opP2 {a b : Dsh} {s s' : Shb} (ha : OpOk enc P W base held a s) (hb : OpOk enc P W base held b s') : OpOk enc P W base held (.pr a b) ⟨bSt P (a.sz + b.sz) (bPr P a.sz s.t s'.f), bPr P a.sz s.t s'.f⟩ := by
 refine ⟨fun t h => ?_, fun fs off h => opPr ha hb fs off h⟩
 have h' : bSt P (a.sz + b.sz) (bPr P a.sz s.t s'.f) t = true := h
 unfold bSt at h'
 split at h'
 ·rename_i fs ht
  simp only [Bool.and_eq_true, beq_iff_eq] at h'
  refine op_struct ht fun cs hl hf => ?_
  have := opPr ha hb _ 0 h'.2 cs (by show 0 + (a.sz + b.sz) ≤ _; omega) hf
  rw [List.drop_zero, List.take_of_length_le (by rw [hl, h'.1]; exact Nat.le_refl _)] at this
  exact this
 ·cases h'
theorem op_of : ∀ (x : Dsh), OpOk enc P W base held x (shB P x)
 | .u8 => op1 rfl fun _ h => op_u8 (bInt_ok h)
 | .u32 => op1 rfl fun _ h => op_u32 (bInt_ok h)
 | .i64 => op1 rfl fun _ h => op_i64 (bInt_ok h)
 | .by e => op1 rfl fun _ h => by obtain ⟨_, h1, h2, h3⟩ := bSlI_ok h; exact op_by e h1 h2 h3
 | .wo e => op1 rfl fun _ h => by obtain ⟨_, h1, h2, h3⟩ := bSlI_ok h; exact op_wo e h1 h2 h3
 | .sl e x => op1 rfl fun _ h => by
  unfold bSl at h
  split at h
  ·rename_i ht
   simp only [Bool.and_eq_true, beq_iff_eq] at h
   exact op_sl e ht h.1 ((op_of x).t _ h.2)
  ·cases h
 | .pr a b => opP2 (op_of a) (op_of b)
theorem open_deep {x : Dsh} {e t : TypeId} {v : Value} {d : DataW H} {p : List MemPlace} (hb : (shB P (.sl e x)).t t = true) (hv : v.cells = #[v]) (h : DataW.Trod enc P W base (fun _ => true) held t v d p) :
  ∃ (l : List x.T) (q : Pl), v = .slice q.A q.n q.cap ∧ ∀ ρ, objR ρ W q ⟨.dp false, e, x.sz, l.length, .d x l⟩ := by
 obtain ⟨m, hm⟩ := h
 rw [hv] at hm
 obtain ⟨l, hl⟩ := (op_of (enc := enc) (P := P) (W := W) (base := base) (held := held) (.sl e x)).t t hb m _ _ hm
 obtain ⟨q, h1, h2⟩ := RdE.root (fun _ h => h) hl e
 exact ⟨l, q, h1, h2⟩
end
end Go.Sx
end
