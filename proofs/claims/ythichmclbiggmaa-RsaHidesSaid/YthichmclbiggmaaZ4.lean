import Derived.Test.YthichmclbiggmaaZ3
import Derived.Test.YthichmclbiggmaaProg
section
set_option linter.unusedVariables false
set_option linter.unusedSimpArgs false
namespace Go.Proofs.Ythichmclbiggmaa
open Go.RowKit Go.Ch Go.Sx
def tabL_rb : List (TypeId × Ti) := [(3, ⟨.int .i64, 1, 8, true, some [.int .i64]⟩),
  (5, ⟨.int .u8, 1, 1, true, some [.int .u8]⟩),
  (23, ⟨.sl 47, 1, 24, false, some [.nils]⟩),
  (25, ⟨.st [(23, 0), (23, 1), (23, 2)], 3, 72, false, some [.nils, .nils, .nils]⟩),
  (26, ⟨.sl 5, 1, 24, false, some [.nils]⟩),
  (30, ⟨.ifc, 1, 16, true, some [.ifc]⟩),
  (33, ⟨.int .i64, 1, 8, true, some [.int .i64]⟩),
  (39, ⟨.st [(23, 0), (23, 1)], 2, 48, false, some [.nils, .nils]⟩),
  (47, ⟨.int .u32, 1, 4, true, some [.int .u32]⟩),
  (66, ⟨.arr 3 23, 3, 72, false, some [.nils, .nils, .nils]⟩),
  (69, ⟨.arr 2 23, 2, 48, false, some [.nils, .nils]⟩),
  (82, ⟨.int .u64, 1, 8, true, some [.int .u64]⟩)]
def tab_rb : Tab := fun t => (tabL_rb).lookup t
theorem tabE_rb : (tabL_rb.map fun p => tiOf Try.prog p.1) = tabL_rb.map fun p => some p.2 := by kernel_rfl
theorem tabO_rb : TabOk Try.prog tab_rb := tab_of tabE_rb
def pSub (n : Nat) (a0 : List UInt32) (a1 : List UInt32) : Option (List UInt32 × Nat × Option Int) :=
  (pmay n a0 a1).bind fun r10 =>
  bif (!r10.2.2.2.2) then
    some ([], 0, (some 4))
  else
    (pCmp n r10.1 r10.2.2.1).bind fun r21 =>
    bif (decide (r21 < (0 : Int))) then
      some ([], 0, (some 1))
    else
      (pless n r10.1 r10.2.2.1).bind fun r26 =>
      some (r26.1, r26.2, none)
def pWrite_j1 (n : Nat) (a0 : List UInt32) (a1 : Int) (r10 : List UInt32 × Nat) (i27_1 : Int) (k_l1 : (List UInt8) → Int → Option (List UInt8 × Nat × Option Int)) (l6_7 : List UInt8) : Option (List UInt8 × Nat × Option Int) :=
  gd (okI .i64 (i27_1 + 1)) <|
  k_l1 l6_7 (i27_1 + 1)
def pWrite_l1 (n : Nat) (a0 : List UInt32) (a1 : Int) (r10 : List UInt32 × Nat) : Nat → List UInt8 → Int → Option (List UInt8 × Nat × Option Int)
  | 0, _, _ => none
  | fu_l1 + 1, l6_5, i27_1 =>
    bif (decide (i27_1 < (4 * ((r10.2 : Nat) : Int)))) then
      gd ((4 : Int) ≠ 0) <|
      gd (okI .i64 (Int.tdiv i27_1 4)) <|
      gd (0 ≤ (Int.tdiv i27_1 4)) <|
      gd ((Int.tdiv i27_1 4) < ((r10.2 : Nat) : Int)) <|
      gd ((4 : Int) ≠ 0) <|
      gd (okI .i64 (8 * (Int.tmod i27_1 4))) <|
      gd (0 ≤ (8 * (Int.tmod i27_1 4))) <|
      bif (decide (i27_1 < a1)) then
        gd (okI .i64 (a1 - 1)) <|
        gd (okI .i64 ((a1 - 1) - i27_1)) <|
        gd (0 ≤ ((a1 - 1) - i27_1)) <|
        gd (((a1 - 1) - i27_1) < ((a1.toNat : Nat) : Int)) <|
        pWrite_j1 n a0 a1 r10 i27_1 (pWrite_l1 n a0 a1 r10 fu_l1) (l6_5.set (((a1 - 1) - i27_1).toNat) ((shr32 (((a0.drop 0).take r10.2).getD ((Int.tdiv i27_1 4).toNat) 0) (8 * (Int.tmod i27_1 4))).toUInt8))
      else
        bif (((shr32 (((a0.drop 0).take r10.2).getD ((Int.tdiv i27_1 4).toNat) 0) (8 * (Int.tmod i27_1 4))).toUInt8) != 0) then
          some ([], 0, (some 1))
        else
          pWrite_j1 n a0 a1 r10 i27_1 (pWrite_l1 n a0 a1 r10 fu_l1) l6_5
    else
      some (l6_5, a1.toNat, none)
def pWrite (n : Nat) (a0 : List UInt32) (a1 : Int) : Option (List UInt8 × Nat × Option Int) :=
  (ptrim n a0).bind fun r10 =>
  bif (decide ((64 : Int) < ((r10.2 : Nat) : Int))) then
    some ([], 0, (some 4))
  else
    bif (decide (a1 < (0 : Int))) then
      some ([], 0, (some 1))
    else
      bif (decide ((256 : Int) < a1)) then
        some ([], 0, (some 1))
      else
        gd (0 ≤ a1) <|
        gd (a1 = a1) <|
        gd (rmB a1.toNat 1) <|
        gd (okI .i64 (4 * ((r10.2 : Nat) : Int))) <|
        pWrite_l1 n a0 a1 r10 n (List.replicate a1.toNat 0) 0
def pMul (n : Nat) (a0 : List UInt32) (a1 : List UInt32) : Option (List UInt32 × Nat × Option Int) :=
  (pmay n a0 a1).bind fun r10 =>
  bif (!r10.2.2.2.2) then
    some ([], 0, (some 4))
  else
    (ptimes n r10.1 r10.2.2.1).bind fun r19 =>
    some (r19.1, r19.2, none)
def pAdd_l1 (n : Nat) (r13 : List UInt32 × Nat × List UInt32 × Nat × Bool) : Nat → List UInt32 → UInt64 → Int → Option (List UInt32 × Nat × Option Int)
  | 0, _, _, _ => none
  | fu_l1 + 1, w7_1, y8_1, i29_1 =>
    bif (decide (i29_1 < ((((if ((r13.2.2.2.1 : Nat) : Int) > ((r13.2.1 : Nat) : Int) then ((r13.2.2.2.1 : Nat) : Int) else ((r13.2.1 : Nat) : Int)) + 1).toNat : Nat) : Int))) then
      (pat n r13.1 i29_1).bind fun r35_2 =>
      (pat n r13.2.2.1 i29_1).bind fun r38_2 =>
      gd (0 ≤ (32 : Int)) <|
      gd (0 ≤ i29_1) <|
      gd (i29_1 < ((((if ((r13.2.2.2.1 : Nat) : Int) > ((r13.2.1 : Nat) : Int) then ((r13.2.2.2.1 : Nat) : Int) else ((r13.2.1 : Nat) : Int)) + 1).toNat : Nat) : Int)) <|
      gd (okI .i64 (i29_1 + 1)) <|
      (pAdd_l1 n r13 fu_l1) (w7_1.set i29_1.toNat ((y8_1 + (r35_2 + r38_2)).toUInt32)) (shr64 (y8_1 + (r35_2 + r38_2)) 32) (i29_1 + 1)
    else
      (ptrim n w7_1).bind fun r50_1 =>
      some (((w7_1.drop 0).take r50_1.2), r50_1.2, none)
def pAdd (n : Nat) (a0 : List UInt32) (a1 : List UInt32) : Option (List UInt32 × Nat × Option Int) :=
  (pmay n a0 a1).bind fun r13 =>
  bif (!r13.2.2.2.2) then
    some ([], 0, (some 4))
  else
    gd (okI .i64 ((if ((r13.2.2.2.1 : Nat) : Int) > ((r13.2.1 : Nat) : Int) then ((r13.2.2.2.1 : Nat) : Int) else ((r13.2.1 : Nat) : Int)) + 1)) <|
    gd (0 ≤ ((if ((r13.2.2.2.1 : Nat) : Int) > ((r13.2.1 : Nat) : Int) then ((r13.2.2.2.1 : Nat) : Int) else ((r13.2.1 : Nat) : Int)) + 1)) <|
    gd (((if ((r13.2.2.2.1 : Nat) : Int) > ((r13.2.1 : Nat) : Int) then ((r13.2.2.2.1 : Nat) : Int) else ((r13.2.1 : Nat) : Int)) + 1) = ((if ((r13.2.2.2.1 : Nat) : Int) > ((r13.2.1 : Nat) : Int) then ((r13.2.2.2.1 : Nat) : Int) else ((r13.2.1 : Nat) : Int)) + 1)) <|
    gd (rmB (((if ((r13.2.2.2.1 : Nat) : Int) > ((r13.2.1 : Nat) : Int) then ((r13.2.2.2.1 : Nat) : Int) else ((r13.2.1 : Nat) : Int)) + 1).toNat) 4) <|
    pAdd_l1 n r13 n (List.replicate (((if ((r13.2.2.2.1 : Nat) : Int) > ((r13.2.1 : Nat) : Int) then ((r13.2.2.2.1 : Nat) : Int) else ((r13.2.1 : Nat) : Int)) + 1).toNat) 0) 0 0
def ksize_l1 (n : Nat) (a0 : List UInt32) : Nat → Int → Option (Int)
  | 0, _ => none
  | fu_l1 + 1, i6_2 =>
    bif (decide (i6_2 < (129 : Int))) then
      (pWrite n a0 i6_2).bind fun r12_3 =>
      bif ((r12_3.2.2).isNone) then
        some i6_2
      else
        gd (okI .i64 (i6_2 + 1)) <|
        (ksize_l1 n a0 fu_l1) (i6_2 + 1)
    else
      some (-1)
def ksize (n : Nat) (a0 : List UInt32) : Option (Int) :=
  ksize_l1 n a0 n 0
def kodd (n : Nat) (a0 : List UInt32) : Option (Bool) :=
  bif (decide ((0 : Int) < ((a0.length : Nat) : Int))) then
    gd (0 ≤ (0 : Int)) <|
    gd ((0 : Int) < ((a0.length : Nat) : Int)) <|
    some (((a0.getD 0 0) &&& (1 : UInt32)) == 1)
  else
    some false
def kCheck (n : Nat) (a0_0 : List UInt32) (a0_1 : List UInt32) : Option (Option Int) :=
  (ksize n a0_0).bind fun r6 =>
  bif (decide (r6 < (62 : Int))) then
    some (some 1)
  else
    (kodd n a0_0).bind fun r12 =>
    bif (!r12) then
      some (some 1)
    else
      (kodd n a0_1).bind fun r18 =>
      bif (!r18) then
        some (some 1)
      else
        (pCmp n a0_1 [3]).bind fun r25 =>
        bif (decide (r25 < (0 : Int))) then
          some (some 1)
        else
          (pCmp n a0_1 a0_0).bind fun r33 =>
          bif (decide ((0 : Int) ≤ r33)) then
            some (some 1)
          else
            some none
def ksecret (n : Nat) (a0_0 : List UInt32) (a0_1 : List UInt32) (a0_2 : List UInt32) : Option (Option Int) :=
  (kCheck n a0_0 a0_1).bind fun r8 =>
  bif (!((r8).isNone)) then
    some (some 1)
  else
    (pCmp n a0_2 []).bind fun r13 =>
    bif (r13 == 0) then
      some (some 1)
    else
      (pCmp n a0_2 a0_0).bind fun r21 =>
      bif (decide ((0 : Int) ≤ r21)) then
        some (some 1)
      else
        some none
def kPair (n : Nat) (a0 : List UInt32) (a1 : List UInt32) (a2 : List UInt32) : Option (List UInt32 × Nat × List UInt32 × Nat × List UInt32 × Option Int) :=
  gd (0 ≤ (0 : Int)) <|
  gd ((0 : Int) < (3 : Int)) <|
  (pAdd n a0 []).bind fun r36 =>
  bif (!((r36.2.2).isNone)) then
    some ([], 0, [], 0, [], r36.2.2)
  else
    gd (okI .i64 1) <|
    gd (0 ≤ (1 : Int)) <|
    gd ((1 : Int) < (3 : Int)) <|
    (pAdd n a1 []).bind fun r36_1 =>
    bif (!((r36_1.2.2).isNone)) then
      some ([], 0, [], 0, [], r36_1.2.2)
    else
      gd (okI .i64 2) <|
      gd (0 ≤ (2 : Int)) <|
      gd ((2 : Int) < (3 : Int)) <|
      (pAdd n a2 []).bind fun r36_2 =>
      bif (!((r36_2.2.2).isNone)) then
        some ([], 0, [], 0, [], r36_2.2.2)
      else
        gd (okI .i64 3) <|
        gd (0 ≤ (0 : Int)) <|
        gd ((0 : Int) < (2 : Int)) <|
        (ksize n a0).bind fun r52 =>
        (pCmp n a0 [3]).bind fun r55 =>
        bif (decide (r55 < (0 : Int))) then
          some ([], 0, [], 0, [], (some 1))
        else
          bif (decide (r52 < (0 : Int))) then
            some ([], 0, [], 0, [], (some 1))
          else
            bif (decide ((64 : Int) < r52)) then
              some ([], 0, [], 0, [], (some 1))
            else
              (pSub n a0 [1]).bind fun r70 =>
              bif (!((r70.2.2).isNone)) then
                some ([], 0, [], 0, [], r70.2.2)
              else
                gd (0 ≤ (0 : Int)) <|
                gd ((0 : Int) < (2 : Int)) <|
                gd (okI .i64 1) <|
                gd (0 ≤ (1 : Int)) <|
                gd ((1 : Int) < (2 : Int)) <|
                (ksize n a1).bind fun r52_1 =>
                (pCmp n a1 [3]).bind fun r55_1 =>
                bif (decide (r55_1 < (0 : Int))) then
                  some ([], 0, [], 0, [], (some 1))
                else
                  bif (decide (r52_1 < (0 : Int))) then
                    some ([], 0, [], 0, [], (some 1))
                  else
                    bif (decide ((64 : Int) < r52_1)) then
                      some ([], 0, [], 0, [], (some 1))
                    else
                      (pSub n a1 [1]).bind fun r70_1 =>
                      bif (!((r70_1.2.2).isNone)) then
                        some ([], 0, [], 0, [], r70_1.2.2)
                      else
                        gd (0 ≤ (1 : Int)) <|
                        gd ((1 : Int) < (2 : Int)) <|
                        gd (okI .i64 2) <|
                        gd (0 ≤ (0 : Int)) <|
                        gd ((0 : Int) < (2 : Int)) <|
                        gd (0 ≤ (1 : Int)) <|
                        gd ((1 : Int) < (2 : Int)) <|
                        (pMul n r70.1 r70_1.1).bind fun r86 =>
                        bif (!((r86.2.2).isNone)) then
                          some ([], 0, [], 0, [], r86.2.2)
                        else
                          (pInv n a2 r86.1).bind fun r96 =>
                          bif (!((r96.2).isNone)) then
                            some ([], 0, [], 0, [], (some 13))
                          else
                            (pMul n a0 a1).bind fun r106 =>
                            bif (!((r106.2.2).isNone)) then
                              some ([], 0, [], 0, [], r106.2.2)
                            else
                              (pAdd n a2 []).bind fun r115 =>
                              bif (!((r115.2.2).isNone)) then
                                some ([], 0, [], 0, [], r115.2.2)
                              else
                                (ksecret n r106.1 r115.1 r96.1).bind fun r127 =>
                                bif (!((r127).isNone)) then
                                  some ([], 0, [], 0, [], r127)
                                else
                                  some (r106.1, r106.2.1, r115.1, r115.2.1, r96.1, none)
def kup (n : Nat) : Option (Bool) :=
  (kCheck n [15] [3]).bind fun r7 =>
  (kPair n [2] [7] [3]).bind fun r12 =>
  gd (¬((r7 : Option Int) = none ∧ ((some 1) : Option Int) = none)) <|
  bif (r7 == (some 1)) then
    gd (¬((r12.2.2.2.2.2 : Option Int) = none ∧ ((some 1) : Option Int) = none)) <|
    some (r12.2.2.2.2.2 == (some 1))
  else
    some false
def pSub_R (r : List UInt32 × Nat × Option Int) : S := ⟨[(4, .c (.wh 0)), (5, .c (.s (.er 33 .i64 r.2.2)))], [], [⟨(.ro true), 47, 1, r.2.1, .w r.1⟩]⟩
def pSub_ct (n : Nat) (r : List UInt32 × Nat × Option Int) : Ct := fun args H => match args with
  | [x0, x1] => (match aW H x0 with | some l0 => (match aW H x1 with | some l1 => some ([pSub n l0 l1 = some r], shA H.length (.t [.c (.wh 0), .c (.s (.er 33 .i64 r.2.2))]), shH H.length [⟨(.ro true), 47, 1, r.2.1, .w r.1⟩]) | none => none) | none => none)
  | _ => none
theorem pSub_ok (n : Nat) (r : List UInt32 × Nat × Option Int) : FnOk Try.prog Tr 34 (pSub_ct n r) := by
  refine ⟨fun args H g av objs hF hg ρ w vals hG hp ha => ?_, _, Try.func34, by kernel_rfl, by kernel_rfl⟩
  obtain ⟨x0, x1, rfl⟩ : ∃ x0 x1, args = [x0, x1] := by
    unfold pSub_ct at hF; split at hF
    · exact ⟨_, _, rfl⟩
    · cases hF
  cases e0 : aW H x0 with
  | none => simp only [pSub_ct, e0, reduceCtorEq] at hF
  | some l0 =>
  cases e1 : aW H x1 with
  | none => simp only [pSub_ct, e0, e1, reduceCtorEq] at hF
  | some l1 =>
  simp only [pSub_ct, e0, e1, Option.some.injEq, Prod.mk.injEq] at hF
  obtain ⟨rfl, rfl, rfl⟩ := hF
  obtain ⟨v0, vals, rfl, k0, ha⟩ := F2.inv ha
  obtain ⟨v1, vals, rfl, k1, ha⟩ := F2.inv ha
  obtain rfl := F2.inv0 ha
  have hI : ∀ w', Kp (noB (fun _ => undef)) w w' → Tr w' := fun _ hk => Tr.keep hk.below hG
  have h : pSub n l0 l1 = some r := hg
  obtain ⟨p0, s0, o0⟩ := aW_ok hp e0 (k0) 47
  obtain ⟨p1, s1, o1⟩ := aW_ok hp e1 (k1) 47
  have hR0 := rel0 (gv := (fun _ => undef)) (n := 27) (w := w) (args := [.c (.wh 0), .c (.wh 1)]) (H := [⟨.ro false, 47, 1, l0.length, .w l0⟩, ⟨.ro false, 47, 1, l1.length, .w l1⟩]) (gl := []) (hpL (ps := [p0, p1]) (F2.cons o0 (F2.cons o1 F2.nil))) (allRo_ok rfl) (F2.cons s0 (F2.cons s1 F2.nil)) GlR.nil (by simp)
  clear ha hp hg k0 k1 e0 e1
  refine calls_W Try.func34 rfl rfl hR0 (Q := fun e s => (e = .ret ∨ e = .normal) ∧ s = pSub_R r) ?_ ?_
  · clear hR0
    unfold pSub at h
    have hT := tabO_rb
    refine W_seq ?_
    refine W_reg hT ftL_nil [] [] [0, 1] [0, 1] (s' := ⟨[(0, .c (.wh 0)), (1, .c (.wh 1))], [], [⟨(.ro false), 47, 1, l0.length, .w l0⟩, ⟨(.ro false), 47, 1, l1.length, .w l1⟩]⟩) (by kernel_rfl) allP_nil ?_
    refine W_seq ?_
    obtain ⟨r10, g1, h⟩ := bind_some' h
    refine W_reg hT (ftL_cons (k := 2) (f := 47) (F := (pmay_ct n r10)) (pmay_ok n r10) (fun _ _ => True.intro) ftL_nil) [] [] [0, 1, 6] [2, 3] (s' := ⟨[(0, .c (.wh 0)), (1, .c (.wh 1)), (6, .c (.s (.b r10.2.2.2.2)))], [], [⟨(.ro false), 47, 1, r10.2.1, .w r10.1⟩, ⟨(.ro false), 47, 1, r10.2.2.2.1, .w r10.2.2.1⟩]⟩) (by kernel_rfl) (allP_cons.2 ⟨g1, allP_nil⟩) ?_
    refine W_seq ?_
    refine W_block ?_
    refine W_seq ?_
    refine W_reg hT ftL_nil [] [] [0, 1, 14] [0, 1] (s' := ⟨[(0, .c (.wh 0)), (1, .c (.wh 1)), (14, .c (.s (.b (!r10.2.2.2.2))))], [], [⟨(.ro false), 47, 1, r10.2.1, .w r10.1⟩, ⟨(.ro false), 47, 1, r10.2.2.2.1, .w r10.2.2.1⟩]⟩) (by kernel_rfl) allP_nil ?_
    refine W_cond (b := (!r10.2.2.2.2)) (by kernel_rfl) (fun g5 => ?_) (fun g5 => ?_)
    · replace h := bif_t h g5
      refine W_seq ?_
      refine W_reg hT ftL_nil [] [] [4, 5] [] (s' := ⟨[(4, .c (.nils)), (5, .c (.s (.er 33 .i64 (some 4))))], [], []⟩) (by kernel_rfl) allP_nil ?_
      refine W_co [.emp 4 47 1 (.w []) true] [4, 5] [0] (s' := (pSub_R ([], 0, (some 4)))) (by kernel_rfl) (W_ret ?_)
      exact ⟨.inl rfl, by cases h; rfl⟩
    · replace h := bif_f h g5
      refine W_seq ?_
      obtain ⟨r21, g2, h⟩ := bind_some' h
      refine W_reg hT (ftL_cons (k := 2) (f := 32) (F := (pCmp_ct n r21)) (pCmp_ok n r21) (fun _ _ => True.intro) ftL_nil) [] [] [0, 1, 18] [0, 1] (s' := ⟨[(0, .c (.wh 0)), (1, .c (.wh 1)), (18, .c (.s (.b (decide (r21 < (0 : Int))))))], [], [⟨(.ro false), 47, 1, r10.2.1, .w r10.1⟩, ⟨(.ro false), 47, 1, r10.2.2.2.1, .w r10.2.2.1⟩]⟩) (by kernel_rfl) (allP_cons.2 ⟨g2, allP_nil⟩) ?_
      refine W_cond (b := (decide (r21 < (0 : Int)))) (by kernel_rfl) (fun g4 => ?_) (fun g4 => ?_)
      · replace h := bif_t h g4
        refine W_seq ?_
        refine W_reg hT ftL_nil [] [] [4, 5] [] (s' := ⟨[(4, .c (.nils)), (5, .c (.s (.er 33 .i64 (some 1))))], [], []⟩) (by kernel_rfl) allP_nil ?_
        refine W_co [.emp 4 47 1 (.w []) true] [4, 5] [0] (s' := (pSub_R ([], 0, (some 1)))) (by kernel_rfl) (W_ret ?_)
        exact ⟨.inl rfl, by cases h; rfl⟩
      · replace h := bif_f h g4
        refine W_co [] [0, 1] [0, 1] (s' := ⟨[(0, .c (.wh 0)), (1, .c (.wh 1))], [], [⟨(.ro false), 47, 1, r10.2.1, .w r10.1⟩, ⟨(.ro false), 47, 1, r10.2.2.2.1, .w r10.2.2.1⟩]⟩) (by kernel_rfl) (W_skip ?_)
        refine W_seq ?_
        obtain ⟨r26, g3, h⟩ := bind_some' h
        refine W_reg hT (ftL_cons (k := 2) (f := 49) (F := (pless_ct n r26)) (pless_ok n r26) (fun _ _ => True.intro) ftL_nil) [] [] [4, 5] [2] (s' := ⟨[(4, .c (.wh 0)), (5, .c (.s (.v .nilIface)))], [], [⟨(.ro true), 47, 1, r26.2, .w r26.1⟩]⟩) (by kernel_rfl) (allP_cons.2 ⟨g3, allP_nil⟩) ?_
        refine W_co [.er 5 33 .i64] [4, 5] [0] (s' := (pSub_R (r26.1, r26.2, none))) (by kernel_rfl) (W_ret ?_)
        exact ⟨.inl rfl, by cases h; rfl⟩
  · rintro e s' ⟨he, rfl⟩
    refine ⟨he, fun a' w' hr => ?_⟩
    exact retS_ok tabO_rb hr (rs := [.tmp 4, .tmp 5]) rfl (objs := [0]) (by kernel_rfl)
def pWrite_j1_E (a0 : List UInt32) (a1 : Int) (r10 : List UInt32 × Nat) (i27_1 : Int) (l6_7 : List UInt8) : S := ⟨[(0, .c (.wh 0)), (1, .c (.s (.k .i64 a1))), (6, .c (.wh 1)), (26, .c (.s (.k .i64 (4 * ((r10.2 : Nat) : Int))))), (27, .c (.s (.k .i64 i27_1)))], [], [⟨(.ro false), 47, 1, r10.2, .w ((a0.drop 0).take r10.2)⟩, ⟨.row, 5, 1, a1.toNat, .b l6_7⟩]⟩
def pWrite_j1_P (n : Nat) (a0 : List UInt32) (a1 : Int) (r10 : List UInt32 × Nat) (i27_1 : Int) (k_l1 : (List UInt8) → Int → Option (List UInt8 × Nat × Option Int)) (r : List UInt8 × Nat × Option Int) : S → Prop := fun s => ∃ (l6_7 : List UInt8), s = pWrite_j1_E a0 a1 r10 i27_1 l6_7 ∧ pWrite_j1 n a0 a1 r10 i27_1 k_l1 l6_7 = some r
theorem pWrite_j1_M {n : Nat} {a0 : List UInt32} {a1 : Int} {r10 : List UInt32 × Nat} {i27_1 : Int} {k_l1 : (List UInt8) → Int → Option (List UInt8 × Nat × Option Int)} {l6_7 : List UInt8} {r : List UInt8 × Nat × Option Int} (h : pWrite_j1 n a0 a1 r10 i27_1 k_l1 l6_7 = some r) : pWrite_j1_P n a0 a1 r10 i27_1 k_l1 r (pWrite_j1_E a0 a1 r10 i27_1 l6_7) := ⟨l6_7, rfl, h⟩
def pWrite_l1_E (a0 : List UInt32) (a1 : Int) (r10 : List UInt32 × Nat) (l6_5 : List UInt8) (i27_1 : Int) : S := ⟨[(0, .c (.wh 0)), (1, .c (.s (.k .i64 a1))), (6, .c (.wh 1)), (26, .c (.s (.k .i64 (4 * ((r10.2 : Nat) : Int))))), (27, .c (.s (.k .i64 i27_1)))], [], [⟨(.ro false), 47, 1, r10.2, .w ((a0.drop 0).take r10.2)⟩, ⟨.row, 5, 1, a1.toNat, .b l6_5⟩]⟩
def pWrite_l1_P (n : Nat) (a0 : List UInt32) (a1 : Int) (r10 : List UInt32 × Nat) (r : List UInt8 × Nat × Option Int) (fu : Nat) : S → Prop := fun s => ∃ (l6_5 : List UInt8), ∃ (i27_1 : Int), s = pWrite_l1_E a0 a1 r10 l6_5 i27_1 ∧ pWrite_l1 n a0 a1 r10 fu l6_5 i27_1 = some r
theorem pWrite_l1_M {n : Nat} {a0 : List UInt32} {a1 : Int} {r10 : List UInt32 × Nat} {l6_5 : List UInt8} {i27_1 : Int} {r : List UInt8 × Nat × Option Int} {fu : Nat} (h : pWrite_l1 n a0 a1 r10 fu l6_5 i27_1 = some r) : pWrite_l1_P n a0 a1 r10 r fu (pWrite_l1_E a0 a1 r10 l6_5 i27_1) := ⟨l6_5, i27_1, rfl, h⟩
def pWrite_R (r : List UInt8 × Nat × Option Int) : S := ⟨[(4, .c (.wh 0)), (5, .c (.s (.er 33 .i64 r.2.2)))], [], [⟨.row, 5, 1, r.2.1, .b r.1⟩]⟩
def pWrite_ct (n : Nat) (r : List UInt8 × Nat × Option Int) : Ct := fun args H => match args with
  | [x0, x1] => (match aW H x0 with | some l0 => (match aI x1 with | some l1 => some ([pWrite n l0 l1 = some r], shA H.length (.t [.c (.wh 0), .c (.s (.er 33 .i64 r.2.2))]), shH H.length [⟨.row, 5, 1, r.2.1, .b r.1⟩]) | none => none) | none => none)
  | _ => none
theorem pWrite_ok (n : Nat) (r : List UInt8 × Nat × Option Int) : FnOk Try.prog Tr 39 (pWrite_ct n r) := by
  refine ⟨fun args H g av objs hF hg ρ w vals hG hp ha => ?_, _, Try.func39, by kernel_rfl, by kernel_rfl⟩
  obtain ⟨x0, x1, rfl⟩ : ∃ x0 x1, args = [x0, x1] := by
    unfold pWrite_ct at hF; split at hF
    · exact ⟨_, _, rfl⟩
    · cases hF
  cases e0 : aW H x0 with
  | none => simp only [pWrite_ct, e0, reduceCtorEq] at hF
  | some l0 =>
  cases e1 : aI x1 with
  | none => simp only [pWrite_ct, e0, e1, reduceCtorEq] at hF
  | some l1 =>
  simp only [pWrite_ct, e0, e1, Option.some.injEq, Prod.mk.injEq] at hF
  obtain ⟨rfl, rfl, rfl⟩ := hF
  obtain ⟨v0, vals, rfl, k0, ha⟩ := F2.inv ha
  obtain ⟨v1, vals, rfl, k1, ha⟩ := F2.inv ha
  obtain rfl := F2.inv0 ha
  have hI : ∀ w', Kp (noB (fun _ => undef)) w w' → Tr w' := fun _ hk => Tr.keep hk.below hG
  have h : pWrite n l0 l1 = some r := hg
  obtain ⟨p0, s0, o0⟩ := aW_ok hp e0 (k0) 47
  have s1 := aI_ok e1 (k1)
  have hR0 := rel0 (gv := (fun _ => undef)) (n := 55) (w := w) (args := [.c (.wh 0), .c (.s (.k .i64 l1))]) (H := [⟨.ro false, 47, 1, l0.length, .w l0⟩]) (gl := []) (hpL (ps := [p0]) (F2.cons o0 F2.nil)) (allRo_ok rfl) (F2.cons s0 (F2.cons s1 F2.nil)) GlR.nil (by simp)
  clear ha hp hg k0 k1 e0 e1
  refine calls_W Try.func39 rfl rfl hR0 (Q := fun e s => (e = .ret ∨ e = .normal) ∧ s = pWrite_R r) ?_ ?_
  · clear hR0
    unfold pWrite at h
    have hT := tabO_rb
    refine W_seq ?_
    refine W_reg hT ftL_nil [] [] [0, 1] [0] (s' := ⟨[(0, .c (.wh 0)), (1, .c (.s (.k .i64 l1)))], [], [⟨(.ro false), 47, 1, l0.length, .w l0⟩]⟩) (by kernel_rfl) allP_nil ?_
    refine W_seq ?_
    obtain ⟨r10, g1, h⟩ := bind_some' h
    refine W_reg hT (ftL_cons (k := 1) (f := 44) (F := (ptrim_ct n r10)) (ptrim_ok n r10) (fun _ _ => True.intro) ftL_nil) [] [] [0, 1] [0] (s' := ⟨[(0, .c (.sl 0 0 r10.2)), (1, .c (.s (.k .i64 l1)))], [], [⟨(.ro false), 47, 1, l0.length, .w l0⟩]⟩) (by kernel_rfl) (allP_cons.2 ⟨g1, allP_nil⟩) ?_
    refine W_seq ?_
    refine W_seq ?_
    refine W_reg hT ftL_nil [] [] [0, 1, 13] [0] (s' := ⟨[(0, .c (.sl 0 0 r10.2)), (1, .c (.s (.k .i64 l1))), (13, .c (.s (.b (decide ((64 : Int) < ((r10.2 : Nat) : Int))))))], [], [⟨(.ro false), 47, 1, l0.length, .w l0⟩]⟩) (by kernel_rfl) allP_nil ?_
    refine W_cond (b := (decide ((64 : Int) < ((r10.2 : Nat) : Int)))) (by kernel_rfl) (fun g23 => ?_) (fun g23 => ?_)
    · replace h := bif_t h g23
      refine W_seq ?_
      refine W_reg hT ftL_nil [] [] [4, 5] [] (s' := ⟨[(4, .c (.nils)), (5, .c (.s (.er 33 .i64 (some 4))))], [], []⟩) (by kernel_rfl) allP_nil ?_
      refine W_co [.nil 4 5 1 (.b [])] [4, 5] [0] (s' := (pWrite_R ([], 0, (some 4)))) (by kernel_rfl) (W_ret ?_)
      exact ⟨.inl rfl, by cases h; rfl⟩
    · replace h := bif_f h g23
      refine W_co [] [0, 1] [0] (s' := ⟨[(0, .c (.sl 0 0 r10.2)), (1, .c (.s (.k .i64 l1)))], [], [⟨(.ro false), 47, 1, l0.length, .w l0⟩]⟩) (by kernel_rfl) (W_skip ?_)
      refine W_seq ?_
      refine W_seq ?_
      rcases Bool.eq_false_or_eq_true (decide (l1 < (0 : Int))) with g2 | g2
      · replace h := bif_t h g2
        refine W_reg hT ftL_nil [(2, true)] [] [0, 1, 20] [0] (s' := ⟨[(0, .c (.sl 0 0 r10.2)), (1, .c (.s (.k .i64 l1))), (20, .c (.s (.b true)))], [], [⟨(.ro false), 47, 1, l0.length, .w l0⟩]⟩) (by kernel_rfl) (allP_cons.2 ⟨g2, allP_nil⟩) ?_
        refine W_cond (b := true) (by kernel_rfl) (fun _ => ?_) (fun hb => by cases hb)
        refine W_seq ?_
        refine W_reg hT ftL_nil [] [] [4, 5] [] (s' := ⟨[(4, .c (.nils)), (5, .c (.s (.er 33 .i64 (some 1))))], [], []⟩) (by kernel_rfl) allP_nil ?_
        refine W_co [.nil 4 5 1 (.b [])] [4, 5] [0] (s' := (pWrite_R ([], 0, (some 1)))) (by kernel_rfl) (W_ret ?_)
        exact ⟨.inl rfl, by cases h; rfl⟩
      · replace h := bif_f h g2
        refine W_reg hT ftL_nil [(2, false)] [] [0, 1, 20] [0] (s' := ⟨[(0, .c (.sl 0 0 r10.2)), (1, .c (.s (.k .i64 l1))), (20, .c (.s (.b (decide ((256 : Int) < l1)))))], [], [⟨(.ro false), 47, 1, l0.length, .w l0⟩]⟩) (by kernel_rfl) (allP_cons.2 ⟨g2, allP_nil⟩) ?_
        refine W_cond (b := (decide ((256 : Int) < l1))) (by kernel_rfl) (fun g22 => ?_) (fun g22 => ?_)
        · replace h := bif_t h g22
          refine W_seq ?_
          refine W_reg hT ftL_nil [] [] [4, 5] [] (s' := ⟨[(4, .c (.nils)), (5, .c (.s (.er 33 .i64 (some 1))))], [], []⟩) (by kernel_rfl) allP_nil ?_
          refine W_co [.nil 4 5 1 (.b [])] [4, 5] [0] (s' := (pWrite_R ([], 0, (some 1)))) (by kernel_rfl) (W_ret ?_)
          exact ⟨.inl rfl, by cases h; rfl⟩
        · replace h := bif_f h g22
          refine W_co [] [0, 1] [0] (s' := ⟨[(0, .c (.sl 0 0 r10.2)), (1, .c (.s (.k .i64 l1)))], [], [⟨(.ro false), 47, 1, l0.length, .w l0⟩]⟩) (by kernel_rfl) (W_skip ?_)
          refine W_seq ?_
          obtain ⟨g3, h⟩ := gd_some h
          obtain ⟨g4, h⟩ := gd_some h
          obtain ⟨g5, h⟩ := gd_some h
          refine W_reg hT ftL_nil [] [] [0, 1, 6] [0, 1] (s' := ⟨[(0, .c (.sl 0 0 r10.2)), (1, .c (.s (.k .i64 l1))), (6, .c (.wh 1))], [], [⟨(.ro false), 47, 1, l0.length, .w l0⟩, ⟨.row, 5, 1, l1.toNat, .b (List.replicate l1.toNat 0)⟩]⟩) (by kernel_rfl) (allP_cons.2 ⟨g3, (allP_cons.2 ⟨g4, (allP_cons.2 ⟨g5, allP_nil⟩)⟩)⟩) ?_
          refine W_seq ?_
          refine W_seq ?_
          obtain ⟨g6, h⟩ := gd_some h
          refine W_reg hT ftL_nil [] [] [0, 1, 6, 26, 27] [0, 1] (s' := ⟨[(0, .c (.sl 0 0 r10.2)), (1, .c (.s (.k .i64 l1))), (6, .c (.wh 1)), (26, .c (.s (.k .i64 (4 * ((r10.2 : Nat) : Int))))), (27, .c (.s (.k .i64 0)))], [], [⟨(.ro false), 47, 1, l0.length, .w l0⟩, ⟨.row, 5, 1, l1.toNat, .b (List.replicate l1.toNat 0)⟩]⟩) (by kernel_rfl) (allP_cons.2 ⟨g6, allP_nil⟩) ?_
          refine W_block ?_
          refine W_co [.vw 0 false] [0, 1, 6, 26, 27] [2, 1] (s' := (pWrite_l1_E l0 l1 r10 (List.replicate l1.toNat 0) 0)) (by kernel_rfl) (W_lp ((pWrite_l1_P n l0 l1 r10 r)) n (pWrite_l1_M h) ?_)
          rintro fu_l1 _ ⟨l6_5, i27_1, rfl, h⟩
          cases fu_l1 with
          | zero => cases h
          | succ fu_l1 =>
            refine ⟨fu_l1, rfl, ?_⟩
            rw [pWrite_l1] at h
            refine W_seq ?_
            refine W_reg hT ftL_nil [] [] [0, 1, 6, 26, 27, 28] [0, 1] (s' := ⟨[(0, .c (.wh 0)), (1, .c (.s (.k .i64 l1))), (6, .c (.wh 1)), (26, .c (.s (.k .i64 (4 * ((r10.2 : Nat) : Int))))), (27, .c (.s (.k .i64 i27_1))), (28, .c (.s (.b (decide (i27_1 < (4 * ((r10.2 : Nat) : Int)))))))], [], [⟨(.ro false), 47, 1, r10.2, .w ((l0.drop 0).take r10.2)⟩, ⟨.row, 5, 1, l1.toNat, .b l6_5⟩]⟩) (by kernel_rfl) allP_nil ?_
            refine W_seq ?_
            refine W_cond (b := (decide (i27_1 < (4 * ((r10.2 : Nat) : Int))))) (by kernel_rfl) (fun g21 => ?_) (fun g21 => ?_)
            · replace h := bif_t h g21
              refine W_co [] [0, 1, 6, 26, 27] [0, 1] (s' := ⟨[(0, .c (.wh 0)), (1, .c (.s (.k .i64 l1))), (6, .c (.wh 1)), (26, .c (.s (.k .i64 (4 * ((r10.2 : Nat) : Int))))), (27, .c (.s (.k .i64 i27_1)))], [], [⟨(.ro false), 47, 1, r10.2, .w ((l0.drop 0).take r10.2)⟩, ⟨.row, 5, 1, l1.toNat, .b l6_5⟩]⟩) (by kernel_rfl) (W_skip ?_)
              refine W_join (pWrite_j1_P n l0 l1 r10 i27_1 (pWrite_l1 n l0 l1 r10 fu_l1) r) ?_ ?_
              · rintro _ ⟨l6_7, rfl, h⟩
                unfold pWrite_j1 at h
                obtain ⟨g7, h⟩ := gd_some h
                refine W_reg hT ftL_nil [] [] [0, 1, 6, 26, 27] [0, 1] (s' := (pWrite_l1_E l0 l1 r10 l6_7 (i27_1 + 1))) (by kernel_rfl) (allP_cons.2 ⟨g7, allP_nil⟩) ?_
                exact pWrite_l1_M h
              · refine W_block ?_
                refine W_seq ?_
                refine W_reg hT ftL_nil [] [] [0, 1, 6, 7, 26, 27] [0, 1] (s' := ⟨[(0, .c (.wh 0)), (1, .c (.s (.k .i64 l1))), (6, .c (.wh 1)), (7, .c (.s (.k .i64 i27_1))), (26, .c (.s (.k .i64 (4 * ((r10.2 : Nat) : Int))))), (27, .c (.s (.k .i64 i27_1)))], [], [⟨(.ro false), 47, 1, r10.2, .w ((l0.drop 0).take r10.2)⟩, ⟨.row, 5, 1, l1.toNat, .b l6_5⟩]⟩) (by kernel_rfl) allP_nil ?_
                refine W_seq ?_
                obtain ⟨g8, h⟩ := gd_some h
                obtain ⟨g9, h⟩ := gd_some h
                obtain ⟨g10, h⟩ := gd_some h
                obtain ⟨g11, h⟩ := gd_some h
                obtain ⟨g12, h⟩ := gd_some h
                obtain ⟨g13, h⟩ := gd_some h
                obtain ⟨g14, h⟩ := gd_some h
                refine W_reg hT ftL_nil [] [] [0, 1, 6, 7, 8, 26, 27] [0, 1] (s' := ⟨[(0, .c (.wh 0)), (1, .c (.s (.k .i64 l1))), (6, .c (.wh 1)), (7, .c (.s (.k .i64 i27_1))), (8, .c (.s (.u8 ((shr32 (((l0.drop 0).take r10.2).getD ((Int.tdiv i27_1 4).toNat) 0) (8 * (Int.tmod i27_1 4))).toUInt8)))), (26, .c (.s (.k .i64 (4 * ((r10.2 : Nat) : Int))))), (27, .c (.s (.k .i64 i27_1)))], [], [⟨(.ro false), 47, 1, r10.2, .w ((l0.drop 0).take r10.2)⟩, ⟨.row, 5, 1, l1.toNat, .b l6_5⟩]⟩) (by kernel_rfl) (allP_cons.2 ⟨g8, (allP_cons.2 ⟨g9, (allP_cons.2 ⟨g10, (allP_cons.2 ⟨g11, (allP_cons.2 ⟨g12, (allP_cons.2 ⟨g13, (allP_cons.2 ⟨g14, allP_nil⟩)⟩)⟩)⟩)⟩)⟩)⟩) ?_
                refine W_seq ?_
                refine W_reg hT ftL_nil [] [] [0, 1, 6, 7, 8, 26, 27, 42] [0, 1] (s' := ⟨[(0, .c (.wh 0)), (1, .c (.s (.k .i64 l1))), (6, .c (.wh 1)), (7, .c (.s (.k .i64 i27_1))), (8, .c (.s (.u8 ((shr32 (((l0.drop 0).take r10.2).getD ((Int.tdiv i27_1 4).toNat) 0) (8 * (Int.tmod i27_1 4))).toUInt8)))), (26, .c (.s (.k .i64 (4 * ((r10.2 : Nat) : Int))))), (27, .c (.s (.k .i64 i27_1))), (42, .c (.s (.b (decide (i27_1 < l1)))))], [], [⟨(.ro false), 47, 1, r10.2, .w ((l0.drop 0).take r10.2)⟩, ⟨.row, 5, 1, l1.toNat, .b l6_5⟩]⟩) (by kernel_rfl) allP_nil ?_
                refine W_cond (b := (decide (i27_1 < l1))) (by kernel_rfl) (fun g20 => ?_) (fun g20 => ?_)
                · replace h := bif_t h g20
                  obtain ⟨g15, h⟩ := gd_some h
                  obtain ⟨g16, h⟩ := gd_some h
                  obtain ⟨g17, h⟩ := gd_some h
                  obtain ⟨g18, h⟩ := gd_some h
                  refine W_reg hT ftL_nil [] [] [0, 1, 6, 26, 27] [0, 1] (s' := (pWrite_j1_E l0 l1 r10 i27_1 (l6_5.set (((l1 - 1) - i27_1).toNat) ((shr32 (((l0.drop 0).take r10.2).getD ((Int.tdiv i27_1 4).toNat) 0) (8 * (Int.tmod i27_1 4))).toUInt8)))) (by kernel_rfl) (allP_cons.2 ⟨g15, (allP_cons.2 ⟨g16, (allP_cons.2 ⟨g17, (allP_cons.2 ⟨g18, allP_nil⟩)⟩)⟩)⟩) ?_
                  exact pWrite_j1_M h
                · replace h := bif_f h g20
                  refine W_seq ?_
                  refine W_reg hT ftL_nil [] [] [0, 1, 6, 26, 27, 51] [0, 1] (s' := ⟨[(0, .c (.wh 0)), (1, .c (.s (.k .i64 l1))), (6, .c (.wh 1)), (26, .c (.s (.k .i64 (4 * ((r10.2 : Nat) : Int))))), (27, .c (.s (.k .i64 i27_1))), (51, .c (.s (.b (((shr32 (((l0.drop 0).take r10.2).getD ((Int.tdiv i27_1 4).toNat) 0) (8 * (Int.tmod i27_1 4))).toUInt8) != 0))))], [], [⟨(.ro false), 47, 1, r10.2, .w ((l0.drop 0).take r10.2)⟩, ⟨.row, 5, 1, l1.toNat, .b l6_5⟩]⟩) (by kernel_rfl) allP_nil ?_
                  refine W_cond (b := (((shr32 (((l0.drop 0).take r10.2).getD ((Int.tdiv i27_1 4).toNat) 0) (8 * (Int.tmod i27_1 4))).toUInt8) != 0)) (by kernel_rfl) (fun g19 => ?_) (fun g19 => ?_)
                  · replace h := bif_t h g19
                    refine W_seq ?_
                    refine W_reg hT ftL_nil [] [] [4, 5] [] (s' := ⟨[(4, .c (.nils)), (5, .c (.s (.er 33 .i64 (some 1))))], [], []⟩) (by kernel_rfl) allP_nil ?_
                    refine W_co [.nil 4 5 1 (.b [])] [4, 5] [0] (s' := (pWrite_R ([], 0, (some 1)))) (by kernel_rfl) (W_ret ?_)
                    exact ⟨.inl rfl, by cases h; rfl⟩
                  · replace h := bif_f h g19
                    refine W_co [] [0, 1, 6, 26, 27] [0, 1] (s' := (pWrite_j1_E l0 l1 r10 i27_1 l6_5)) (by kernel_rfl) (W_skip ?_)
                    exact pWrite_j1_M h
            · replace h := bif_f h g21
              refine W_co [] [6] [1] (s' := ⟨[(6, .c (.wh 0))], [], [⟨.row, 5, 1, l1.toNat, .b l6_5⟩]⟩) (by kernel_rfl) (W_exit ?_)
              refine W_seq ?_
              refine W_reg hT ftL_nil [] [] [4, 5] [0] (s' := ⟨[(4, .c (.wh 0)), (5, .c (.s (.v .nilIface)))], [], [⟨.row, 5, 1, l1.toNat, .b l6_5⟩]⟩) (by kernel_rfl) allP_nil ?_
              refine W_co [.er 5 33 .i64] [4, 5] [0] (s' := (pWrite_R (l6_5, l1.toNat, none))) (by kernel_rfl) (W_ret ?_)
              exact ⟨.inl rfl, by cases h; rfl⟩
  · rintro e s' ⟨he, rfl⟩
    refine ⟨he, fun a' w' hr => ?_⟩
    exact retS_ok tabO_rb hr (rs := [.tmp 4, .tmp 5]) rfl (objs := [0]) (by kernel_rfl)
def pMul_R (r : List UInt32 × Nat × Option Int) : S := ⟨[(4, .c (.wh 0)), (5, .c (.s (.er 33 .i64 r.2.2)))], [], [⟨(.ro true), 47, 1, r.2.1, .w r.1⟩]⟩
def pMul_ct (n : Nat) (r : List UInt32 × Nat × Option Int) : Ct := fun args H => match args with
  | [x0, x1] => (match aW H x0 with | some l0 => (match aW H x1 with | some l1 => some ([pMul n l0 l1 = some r], shA H.length (.t [.c (.wh 0), .c (.s (.er 33 .i64 r.2.2))]), shH H.length [⟨(.ro true), 47, 1, r.2.1, .w r.1⟩]) | none => none) | none => none)
  | _ => none
theorem pMul_ok (n : Nat) (r : List UInt32 × Nat × Option Int) : FnOk Try.prog Tr 35 (pMul_ct n r) := by
  refine ⟨fun args H g av objs hF hg ρ w vals hG hp ha => ?_, _, Try.func35, by kernel_rfl, by kernel_rfl⟩
  obtain ⟨x0, x1, rfl⟩ : ∃ x0 x1, args = [x0, x1] := by
    unfold pMul_ct at hF; split at hF
    · exact ⟨_, _, rfl⟩
    · cases hF
  cases e0 : aW H x0 with
  | none => simp only [pMul_ct, e0, reduceCtorEq] at hF
  | some l0 =>
  cases e1 : aW H x1 with
  | none => simp only [pMul_ct, e0, e1, reduceCtorEq] at hF
  | some l1 =>
  simp only [pMul_ct, e0, e1, Option.some.injEq, Prod.mk.injEq] at hF
  obtain ⟨rfl, rfl, rfl⟩ := hF
  obtain ⟨v0, vals, rfl, k0, ha⟩ := F2.inv ha
  obtain ⟨v1, vals, rfl, k1, ha⟩ := F2.inv ha
  obtain rfl := F2.inv0 ha
  have hI : ∀ w', Kp (noB (fun _ => undef)) w w' → Tr w' := fun _ hk => Tr.keep hk.below hG
  have h : pMul n l0 l1 = some r := hg
  obtain ⟨p0, s0, o0⟩ := aW_ok hp e0 (k0) 47
  obtain ⟨p1, s1, o1⟩ := aW_ok hp e1 (k1) 47
  have hR0 := rel0 (gv := (fun _ => undef)) (n := 20) (w := w) (args := [.c (.wh 0), .c (.wh 1)]) (H := [⟨.ro false, 47, 1, l0.length, .w l0⟩, ⟨.ro false, 47, 1, l1.length, .w l1⟩]) (gl := []) (hpL (ps := [p0, p1]) (F2.cons o0 (F2.cons o1 F2.nil))) (allRo_ok rfl) (F2.cons s0 (F2.cons s1 F2.nil)) GlR.nil (by simp)
  clear ha hp hg k0 k1 e0 e1
  refine calls_W Try.func35 rfl rfl hR0 (Q := fun e s => (e = .ret ∨ e = .normal) ∧ s = pMul_R r) ?_ ?_
  · clear hR0
    unfold pMul at h
    have hT := tabO_rb
    refine W_seq ?_
    refine W_reg hT ftL_nil [] [] [0, 1] [0, 1] (s' := ⟨[(0, .c (.wh 0)), (1, .c (.wh 1))], [], [⟨(.ro false), 47, 1, l0.length, .w l0⟩, ⟨(.ro false), 47, 1, l1.length, .w l1⟩]⟩) (by kernel_rfl) allP_nil ?_
    refine W_seq ?_
    obtain ⟨r10, g1, h⟩ := bind_some' h
    refine W_reg hT (ftL_cons (k := 2) (f := 47) (F := (pmay_ct n r10)) (pmay_ok n r10) (fun _ _ => True.intro) ftL_nil) [] [] [0, 1, 6] [2, 3] (s' := ⟨[(0, .c (.wh 0)), (1, .c (.wh 1)), (6, .c (.s (.b r10.2.2.2.2)))], [], [⟨(.ro false), 47, 1, r10.2.1, .w r10.1⟩, ⟨(.ro false), 47, 1, r10.2.2.2.1, .w r10.2.2.1⟩]⟩) (by kernel_rfl) (allP_cons.2 ⟨g1, allP_nil⟩) ?_
    refine W_seq ?_
    refine W_seq ?_
    refine W_reg hT ftL_nil [] [] [0, 1, 15] [0, 1] (s' := ⟨[(0, .c (.wh 0)), (1, .c (.wh 1)), (15, .c (.s (.b (!r10.2.2.2.2))))], [], [⟨(.ro false), 47, 1, r10.2.1, .w r10.1⟩, ⟨(.ro false), 47, 1, r10.2.2.2.1, .w r10.2.2.1⟩]⟩) (by kernel_rfl) allP_nil ?_
    refine W_cond (b := (!r10.2.2.2.2)) (by kernel_rfl) (fun g3 => ?_) (fun g3 => ?_)
    · replace h := bif_t h g3
      refine W_seq ?_
      refine W_reg hT ftL_nil [] [] [4, 5] [] (s' := ⟨[(4, .c (.nils)), (5, .c (.s (.er 33 .i64 (some 4))))], [], []⟩) (by kernel_rfl) allP_nil ?_
      refine W_co [.emp 4 47 1 (.w []) true] [4, 5] [0] (s' := (pMul_R ([], 0, (some 4)))) (by kernel_rfl) (W_ret ?_)
      exact ⟨.inl rfl, by cases h; rfl⟩
    · replace h := bif_f h g3
      refine W_co [] [0, 1] [0, 1] (s' := ⟨[(0, .c (.wh 0)), (1, .c (.wh 1))], [], [⟨(.ro false), 47, 1, r10.2.1, .w r10.1⟩, ⟨(.ro false), 47, 1, r10.2.2.2.1, .w r10.2.2.1⟩]⟩) (by kernel_rfl) (W_skip ?_)
      refine W_seq ?_
      obtain ⟨r19, g2, h⟩ := bind_some' h
      refine W_reg hT (ftL_cons (k := 2) (f := 50) (F := (ptimes_ct n r19)) (ptimes_ok n r19) (fun _ _ => True.intro) ftL_nil) [] [] [4, 5] [2] (s' := ⟨[(4, .c (.wh 0)), (5, .c (.s (.v .nilIface)))], [], [⟨(.ro true), 47, 1, r19.2, .w r19.1⟩]⟩) (by kernel_rfl) (allP_cons.2 ⟨g2, allP_nil⟩) ?_
      refine W_co [.er 5 33 .i64] [4, 5] [0] (s' := (pMul_R (r19.1, r19.2, none))) (by kernel_rfl) (W_ret ?_)
      exact ⟨.inl rfl, by cases h; rfl⟩
  · rintro e s' ⟨he, rfl⟩
    refine ⟨he, fun a' w' hr => ?_⟩
    exact retS_ok tabO_rb hr (rs := [.tmp 4, .tmp 5]) rfl (objs := [0]) (by kernel_rfl)
def pAdd_l1_E (r13 : List UInt32 × Nat × List UInt32 × Nat × Bool) (w7_1 : List UInt32) (y8_1 : UInt64) (i29_1 : Int) : S := ⟨[(0, .c (.wh 0)), (1, .c (.wh 1)), (7, .c (.wh 2)), (8, .c (.s (.u64 y8_1))), (28, .c (.s (.k .i64 ((((if ((r13.2.2.2.1 : Nat) : Int) > ((r13.2.1 : Nat) : Int) then ((r13.2.2.2.1 : Nat) : Int) else ((r13.2.1 : Nat) : Int)) + 1).toNat : Nat) : Int)))), (29, .c (.s (.k .i64 i29_1)))], [], [⟨(.ro false), 47, 1, r13.2.1, .w r13.1⟩, ⟨(.ro false), 47, 1, r13.2.2.2.1, .w r13.2.2.1⟩, ⟨.row, 47, 1, ((if ((r13.2.2.2.1 : Nat) : Int) > ((r13.2.1 : Nat) : Int) then ((r13.2.2.2.1 : Nat) : Int) else ((r13.2.1 : Nat) : Int)) + 1).toNat, .w w7_1⟩]⟩
def pAdd_l1_P (n : Nat) (r13 : List UInt32 × Nat × List UInt32 × Nat × Bool) (r : List UInt32 × Nat × Option Int) (fu : Nat) : S → Prop := fun s => ∃ (w7_1 : List UInt32), ∃ (y8_1 : UInt64), ∃ (i29_1 : Int), s = pAdd_l1_E r13 w7_1 y8_1 i29_1 ∧ pAdd_l1 n r13 fu w7_1 y8_1 i29_1 = some r
theorem pAdd_l1_M {n : Nat} {r13 : List UInt32 × Nat × List UInt32 × Nat × Bool} {w7_1 : List UInt32} {y8_1 : UInt64} {i29_1 : Int} {r : List UInt32 × Nat × Option Int} {fu : Nat} (h : pAdd_l1 n r13 fu w7_1 y8_1 i29_1 = some r) : pAdd_l1_P n r13 r fu (pAdd_l1_E r13 w7_1 y8_1 i29_1) := ⟨w7_1, y8_1, i29_1, rfl, h⟩
def pAdd_R (r : List UInt32 × Nat × Option Int) : S := ⟨[(4, .c (.wh 0)), (5, .c (.s (.er 33 .i64 r.2.2)))], [], [⟨(.ro true), 47, 1, r.2.1, .w r.1⟩]⟩
def pAdd_ct (n : Nat) (r : List UInt32 × Nat × Option Int) : Ct := fun args H => match args with
  | [x0, x1] => (match aW H x0 with | some l0 => (match aW H x1 with | some l1 => some ([pAdd n l0 l1 = some r], shA H.length (.t [.c (.wh 0), .c (.s (.er 33 .i64 r.2.2))]), shH H.length [⟨(.ro true), 47, 1, r.2.1, .w r.1⟩]) | none => none) | none => none)
  | _ => none
theorem pAdd_ok (n : Nat) (r : List UInt32 × Nat × Option Int) : FnOk Try.prog Tr 33 (pAdd_ct n r) := by
  refine ⟨fun args H g av objs hF hg ρ w vals hG hp ha => ?_, _, Try.func33, by kernel_rfl, by kernel_rfl⟩
  obtain ⟨x0, x1, rfl⟩ : ∃ x0 x1, args = [x0, x1] := by
    unfold pAdd_ct at hF; split at hF
    · exact ⟨_, _, rfl⟩
    · cases hF
  cases e0 : aW H x0 with
  | none => simp only [pAdd_ct, e0, reduceCtorEq] at hF
  | some l0 =>
  cases e1 : aW H x1 with
  | none => simp only [pAdd_ct, e0, e1, reduceCtorEq] at hF
  | some l1 =>
  simp only [pAdd_ct, e0, e1, Option.some.injEq, Prod.mk.injEq] at hF
  obtain ⟨rfl, rfl, rfl⟩ := hF
  obtain ⟨v0, vals, rfl, k0, ha⟩ := F2.inv ha
  obtain ⟨v1, vals, rfl, k1, ha⟩ := F2.inv ha
  obtain rfl := F2.inv0 ha
  have hI : ∀ w', Kp (noB (fun _ => undef)) w w' → Tr w' := fun _ hk => Tr.keep hk.below hG
  have h : pAdd n l0 l1 = some r := hg
  obtain ⟨p0, s0, o0⟩ := aW_ok hp e0 (k0) 47
  obtain ⟨p1, s1, o1⟩ := aW_ok hp e1 (k1) 47
  have hR0 := rel0 (gv := (fun _ => undef)) (n := 51) (w := w) (args := [.c (.wh 0), .c (.wh 1)]) (H := [⟨.ro false, 47, 1, l0.length, .w l0⟩, ⟨.ro false, 47, 1, l1.length, .w l1⟩]) (gl := []) (hpL (ps := [p0, p1]) (F2.cons o0 (F2.cons o1 F2.nil))) (allRo_ok rfl) (F2.cons s0 (F2.cons s1 F2.nil)) GlR.nil (by simp)
  clear ha hp hg k0 k1 e0 e1
  refine calls_W Try.func33 rfl rfl hR0 (Q := fun e s => (e = .ret ∨ e = .normal) ∧ s = pAdd_R r) ?_ ?_
  · clear hR0
    unfold pAdd at h
    have hT := tabO_rb
    refine W_seq ?_
    refine W_reg hT ftL_nil [] [] [0, 1] [0, 1] (s' := ⟨[(0, .c (.wh 0)), (1, .c (.wh 1))], [], [⟨(.ro false), 47, 1, l0.length, .w l0⟩, ⟨(.ro false), 47, 1, l1.length, .w l1⟩]⟩) (by kernel_rfl) allP_nil ?_
    refine W_seq ?_
    obtain ⟨r13, g1, h⟩ := bind_some' h
    refine W_reg hT (ftL_cons (k := 2) (f := 47) (F := (pmay_ct n r13)) (pmay_ok n r13) (fun _ _ => True.intro) ftL_nil) [] [] [0, 1, 6] [2, 3] (s' := ⟨[(0, .c (.wh 0)), (1, .c (.wh 1)), (6, .c (.s (.b r13.2.2.2.2)))], [], [⟨(.ro false), 47, 1, r13.2.1, .w r13.1⟩, ⟨(.ro false), 47, 1, r13.2.2.2.1, .w r13.2.2.1⟩]⟩) (by kernel_rfl) (allP_cons.2 ⟨g1, allP_nil⟩) ?_
    refine W_seq ?_
    refine W_seq ?_
    refine W_reg hT ftL_nil [] [] [0, 1, 18] [0, 1] (s' := ⟨[(0, .c (.wh 0)), (1, .c (.wh 1)), (18, .c (.s (.b (!r13.2.2.2.2))))], [], [⟨(.ro false), 47, 1, r13.2.1, .w r13.1⟩, ⟨(.ro false), 47, 1, r13.2.2.2.1, .w r13.2.2.1⟩]⟩) (by kernel_rfl) allP_nil ?_
    refine W_cond (b := (!r13.2.2.2.2)) (by kernel_rfl) (fun g14 => ?_) (fun g14 => ?_)
    · replace h := bif_t h g14
      refine W_seq ?_
      refine W_reg hT ftL_nil [] [] [4, 5] [] (s' := ⟨[(4, .c (.nils)), (5, .c (.s (.er 33 .i64 (some 4))))], [], []⟩) (by kernel_rfl) allP_nil ?_
      refine W_co [.emp 4 47 1 (.w []) true] [4, 5] [0] (s' := (pAdd_R ([], 0, (some 4)))) (by kernel_rfl) (W_ret ?_)
      exact ⟨.inl rfl, by cases h; rfl⟩
    · replace h := bif_f h g14
      refine W_co [] [0, 1] [0, 1] (s' := ⟨[(0, .c (.wh 0)), (1, .c (.wh 1))], [], [⟨(.ro false), 47, 1, r13.2.1, .w r13.1⟩, ⟨(.ro false), 47, 1, r13.2.2.2.1, .w r13.2.2.1⟩]⟩) (by kernel_rfl) (W_skip ?_)
      refine W_seq ?_
      obtain ⟨g2, h⟩ := gd_some h
      obtain ⟨g3, h⟩ := gd_some h
      obtain ⟨g4, h⟩ := gd_some h
      obtain ⟨g5, h⟩ := gd_some h
      refine W_reg hT ftL_nil [] [] [0, 1, 7, 8] [0, 1, 2] (s' := ⟨[(0, .c (.wh 0)), (1, .c (.wh 1)), (7, .c (.wh 2)), (8, .c (.s (.u64 0)))], [], [⟨(.ro false), 47, 1, r13.2.1, .w r13.1⟩, ⟨(.ro false), 47, 1, r13.2.2.2.1, .w r13.2.2.1⟩, ⟨.row, 47, 1, ((if ((r13.2.2.2.1 : Nat) : Int) > ((r13.2.1 : Nat) : Int) then ((r13.2.2.2.1 : Nat) : Int) else ((r13.2.1 : Nat) : Int)) + 1).toNat, .w (List.replicate (((if ((r13.2.2.2.1 : Nat) : Int) > ((r13.2.1 : Nat) : Int) then ((r13.2.2.2.1 : Nat) : Int) else ((r13.2.1 : Nat) : Int)) + 1).toNat) 0)⟩]⟩) (by kernel_rfl) (allP_cons.2 ⟨g2, (allP_cons.2 ⟨g3, (allP_cons.2 ⟨g4, (allP_cons.2 ⟨g5, allP_nil⟩)⟩)⟩)⟩) ?_
      refine W_seq ?_
      refine W_seq ?_
      refine W_reg hT ftL_nil [] [] [0, 1, 7, 8, 28, 29] [0, 1, 2] (s' := ⟨[(0, .c (.wh 0)), (1, .c (.wh 1)), (7, .c (.wh 2)), (8, .c (.s (.u64 0))), (28, .c (.s (.k .i64 ((((if ((r13.2.2.2.1 : Nat) : Int) > ((r13.2.1 : Nat) : Int) then ((r13.2.2.2.1 : Nat) : Int) else ((r13.2.1 : Nat) : Int)) + 1).toNat : Nat) : Int)))), (29, .c (.s (.k .i64 0)))], [], [⟨(.ro false), 47, 1, r13.2.1, .w r13.1⟩, ⟨(.ro false), 47, 1, r13.2.2.2.1, .w r13.2.2.1⟩, ⟨.row, 47, 1, ((if ((r13.2.2.2.1 : Nat) : Int) > ((r13.2.1 : Nat) : Int) then ((r13.2.2.2.1 : Nat) : Int) else ((r13.2.1 : Nat) : Int)) + 1).toNat, .w (List.replicate (((if ((r13.2.2.2.1 : Nat) : Int) > ((r13.2.1 : Nat) : Int) then ((r13.2.2.2.1 : Nat) : Int) else ((r13.2.1 : Nat) : Int)) + 1).toNat) 0)⟩]⟩) (by kernel_rfl) allP_nil ?_
      refine W_block ?_
      refine W_co [] [0, 1, 7, 8, 28, 29] [0, 1, 2] (s' := (pAdd_l1_E r13 (List.replicate (((if ((r13.2.2.2.1 : Nat) : Int) > ((r13.2.1 : Nat) : Int) then ((r13.2.2.2.1 : Nat) : Int) else ((r13.2.1 : Nat) : Int)) + 1).toNat) 0) 0 0)) (by kernel_rfl) (W_lp ((pAdd_l1_P n r13 r)) n (pAdd_l1_M h) ?_)
      rintro fu_l1 _ ⟨w7_1, y8_1, i29_1, rfl, h⟩
      cases fu_l1 with
      | zero => cases h
      | succ fu_l1 =>
        refine ⟨fu_l1, rfl, ?_⟩
        rw [pAdd_l1] at h
        refine W_seq ?_
        refine W_reg hT ftL_nil [] [] [0, 1, 7, 8, 28, 29, 30] [0, 1, 2] (s' := ⟨[(0, .c (.wh 0)), (1, .c (.wh 1)), (7, .c (.wh 2)), (8, .c (.s (.u64 y8_1))), (28, .c (.s (.k .i64 ((((if ((r13.2.2.2.1 : Nat) : Int) > ((r13.2.1 : Nat) : Int) then ((r13.2.2.2.1 : Nat) : Int) else ((r13.2.1 : Nat) : Int)) + 1).toNat : Nat) : Int)))), (29, .c (.s (.k .i64 i29_1))), (30, .c (.s (.b (decide (i29_1 < ((((if ((r13.2.2.2.1 : Nat) : Int) > ((r13.2.1 : Nat) : Int) then ((r13.2.2.2.1 : Nat) : Int) else ((r13.2.1 : Nat) : Int)) + 1).toNat : Nat) : Int))))))], [], [⟨(.ro false), 47, 1, r13.2.1, .w r13.1⟩, ⟨(.ro false), 47, 1, r13.2.2.2.1, .w r13.2.2.1⟩, ⟨.row, 47, 1, ((if ((r13.2.2.2.1 : Nat) : Int) > ((r13.2.1 : Nat) : Int) then ((r13.2.2.2.1 : Nat) : Int) else ((r13.2.1 : Nat) : Int)) + 1).toNat, .w w7_1⟩]⟩) (by kernel_rfl) allP_nil ?_
        refine W_seq ?_
        refine W_cond (b := (decide (i29_1 < ((((if ((r13.2.2.2.1 : Nat) : Int) > ((r13.2.1 : Nat) : Int) then ((r13.2.2.2.1 : Nat) : Int) else ((r13.2.1 : Nat) : Int)) + 1).toNat : Nat) : Int)))) (by kernel_rfl) (fun g13 => ?_) (fun g13 => ?_)
        · replace h := bif_t h g13
          refine W_co [] [0, 1, 7, 8, 28, 29] [0, 1, 2] (s' := ⟨[(0, .c (.wh 0)), (1, .c (.wh 1)), (7, .c (.wh 2)), (8, .c (.s (.u64 y8_1))), (28, .c (.s (.k .i64 ((((if ((r13.2.2.2.1 : Nat) : Int) > ((r13.2.1 : Nat) : Int) then ((r13.2.2.2.1 : Nat) : Int) else ((r13.2.1 : Nat) : Int)) + 1).toNat : Nat) : Int)))), (29, .c (.s (.k .i64 i29_1)))], [], [⟨(.ro false), 47, 1, r13.2.1, .w r13.1⟩, ⟨(.ro false), 47, 1, r13.2.2.2.1, .w r13.2.2.1⟩, ⟨.row, 47, 1, ((if ((r13.2.2.2.1 : Nat) : Int) > ((r13.2.1 : Nat) : Int) then ((r13.2.2.2.1 : Nat) : Int) else ((r13.2.1 : Nat) : Int)) + 1).toNat, .w w7_1⟩]⟩) (by kernel_rfl) (W_skip ?_)
          refine W_seq ?_
          refine W_block ?_
          refine W_seq ?_
          refine W_reg hT ftL_nil [] [] [0, 1, 7, 8, 9, 28, 29] [0, 1, 2] (s' := ⟨[(0, .c (.wh 0)), (1, .c (.wh 1)), (7, .c (.wh 2)), (8, .c (.s (.u64 y8_1))), (9, .c (.s (.k .i64 i29_1))), (28, .c (.s (.k .i64 ((((if ((r13.2.2.2.1 : Nat) : Int) > ((r13.2.1 : Nat) : Int) then ((r13.2.2.2.1 : Nat) : Int) else ((r13.2.1 : Nat) : Int)) + 1).toNat : Nat) : Int)))), (29, .c (.s (.k .i64 i29_1)))], [], [⟨(.ro false), 47, 1, r13.2.1, .w r13.1⟩, ⟨(.ro false), 47, 1, r13.2.2.2.1, .w r13.2.2.1⟩, ⟨.row, 47, 1, ((if ((r13.2.2.2.1 : Nat) : Int) > ((r13.2.1 : Nat) : Int) then ((r13.2.2.2.1 : Nat) : Int) else ((r13.2.1 : Nat) : Int)) + 1).toNat, .w w7_1⟩]⟩) (by kernel_rfl) allP_nil ?_
          refine W_seq ?_
          obtain ⟨r35_2, g6, h⟩ := bind_some' h
          obtain ⟨r38_2, g7, h⟩ := bind_some' h
          refine W_reg hT (ftL_cons (k := 3) (f := 48) (F := (pat_ct n r35_2)) (pat_ok n r35_2) (fun _ _ => True.intro) (ftL_cons (k := 6) (f := 48) (F := (pat_ct n r38_2)) (pat_ok n r38_2) (fun _ _ => True.intro) ftL_nil)) [] [] [0, 1, 7, 8, 9, 28, 29] [0, 1, 2] (s' := ⟨[(0, .c (.wh 0)), (1, .c (.wh 1)), (7, .c (.wh 2)), (8, .c (.s (.u64 (y8_1 + (r35_2 + r38_2))))), (9, .c (.s (.k .i64 i29_1))), (28, .c (.s (.k .i64 ((((if ((r13.2.2.2.1 : Nat) : Int) > ((r13.2.1 : Nat) : Int) then ((r13.2.2.2.1 : Nat) : Int) else ((r13.2.1 : Nat) : Int)) + 1).toNat : Nat) : Int)))), (29, .c (.s (.k .i64 i29_1)))], [], [⟨(.ro false), 47, 1, r13.2.1, .w r13.1⟩, ⟨(.ro false), 47, 1, r13.2.2.2.1, .w r13.2.2.1⟩, ⟨.row, 47, 1, ((if ((r13.2.2.2.1 : Nat) : Int) > ((r13.2.1 : Nat) : Int) then ((r13.2.2.2.1 : Nat) : Int) else ((r13.2.1 : Nat) : Int)) + 1).toNat, .w w7_1⟩]⟩) (by kernel_rfl) (allP_cons.2 ⟨g6, (allP_cons.2 ⟨g7, allP_nil⟩)⟩) ?_
          obtain ⟨g8, h⟩ := gd_some h
          obtain ⟨g9, h⟩ := gd_some h
          obtain ⟨g10, h⟩ := gd_some h
          refine W_reg hT ftL_nil [] [] [0, 1, 7, 8, 28, 29] [0, 1, 2] (s' := ⟨[(0, .c (.wh 0)), (1, .c (.wh 1)), (7, .c (.wh 2)), (8, .c (.s (.u64 (shr64 (y8_1 + (r35_2 + r38_2)) 32)))), (28, .c (.s (.k .i64 ((((if ((r13.2.2.2.1 : Nat) : Int) > ((r13.2.1 : Nat) : Int) then ((r13.2.2.2.1 : Nat) : Int) else ((r13.2.1 : Nat) : Int)) + 1).toNat : Nat) : Int)))), (29, .c (.s (.k .i64 i29_1)))], [], [⟨(.ro false), 47, 1, r13.2.1, .w r13.1⟩, ⟨(.ro false), 47, 1, r13.2.2.2.1, .w r13.2.2.1⟩, ⟨.row, 47, 1, ((if ((r13.2.2.2.1 : Nat) : Int) > ((r13.2.1 : Nat) : Int) then ((r13.2.2.2.1 : Nat) : Int) else ((r13.2.1 : Nat) : Int)) + 1).toNat, .w (w7_1.set i29_1.toNat ((y8_1 + (r35_2 + r38_2)).toUInt32))⟩]⟩) (by kernel_rfl) (allP_cons.2 ⟨g8, (allP_cons.2 ⟨g9, (allP_cons.2 ⟨g10, allP_nil⟩)⟩)⟩) ?_
          obtain ⟨g11, h⟩ := gd_some h
          refine W_reg hT ftL_nil [] [] [0, 1, 7, 8, 28, 29] [0, 1, 2] (s' := (pAdd_l1_E r13 (w7_1.set i29_1.toNat ((y8_1 + (r35_2 + r38_2)).toUInt32)) (shr64 (y8_1 + (r35_2 + r38_2)) 32) (i29_1 + 1))) (by kernel_rfl) (allP_cons.2 ⟨g11, allP_nil⟩) ?_
          exact pAdd_l1_M h
        · replace h := bif_f h g13
          refine W_co [] [7] [2] (s' := ⟨[(7, .c (.wh 0))], [], [⟨.row, 47, 1, ((if ((r13.2.2.2.1 : Nat) : Int) > ((r13.2.1 : Nat) : Int) then ((r13.2.2.2.1 : Nat) : Int) else ((r13.2.1 : Nat) : Int)) + 1).toNat, .w w7_1⟩]⟩) (by kernel_rfl) (W_exit ?_)
          refine W_seq ?_
          obtain ⟨r50_1, g12, h⟩ := bind_some' h
          refine W_reg hT (ftL_cons (k := 1) (f := 44) (F := (ptrim_ct n r50_1)) (ptrim_ok n r50_1) (fun _ _ => True.intro) ftL_nil) [] [] [4, 5] [0] (s' := ⟨[(4, .c (.sl 0 0 r50_1.2)), (5, .c (.s (.v .nilIface)))], [], [⟨.row, 47, 1, ((if ((r13.2.2.2.1 : Nat) : Int) > ((r13.2.1 : Nat) : Int) then ((r13.2.2.2.1 : Nat) : Int) else ((r13.2.1 : Nat) : Int)) + 1).toNat, .w w7_1⟩]⟩) (by kernel_rfl) (allP_cons.2 ⟨g12, allP_nil⟩) ?_
          refine W_co [.vw 4 true, .er 5 33 .i64] [4, 5] [1] (s' := (pAdd_R (((w7_1.drop 0).take r50_1.2), r50_1.2, none))) (by kernel_rfl) (W_ret ?_)
          exact ⟨.inl rfl, by cases h; rfl⟩
  · rintro e s' ⟨he, rfl⟩
    refine ⟨he, fun a' w' hr => ?_⟩
    exact retS_ok tabO_rb hr (rs := [.tmp 4, .tmp 5]) rfl (objs := [0]) (by kernel_rfl)
def ksize_l1_E (a0 : List UInt32) (i6_2 : Int) : S := ⟨[(0, .c (.wh 0)), (6, .c (.s (.k .i64 i6_2)))], [], [⟨(.ro false), 47, 1, a0.length, .w a0⟩]⟩
def ksize_l1_P (n : Nat) (a0 : List UInt32) (r : Int) (fu : Nat) : S → Prop := fun s => ∃ (i6_2 : Int), s = ksize_l1_E a0 i6_2 ∧ ksize_l1 n a0 fu i6_2 = some r
theorem ksize_l1_M {n : Nat} {a0 : List UInt32} {i6_2 : Int} {r : Int} {fu : Nat} (h : ksize_l1 n a0 fu i6_2 = some r) : ksize_l1_P n a0 r fu (ksize_l1_E a0 i6_2) := ⟨i6_2, rfl, h⟩
def ksize_R (r : Int) : S := ⟨[(2, .c (.s (.k .i64 r)))], [], []⟩
def ksize_ct (n : Nat) (r : Int) : Ct := fun args H => match args with
  | [x0] => (match aW H x0 with | some l0 => some ([ksize n l0 = some r], shA H.length (.c (.s (.k .i64 r))), shH H.length []) | none => none)
  | _ => none
theorem ksize_ok (n : Nat) (r : Int) : FnOk Try.prog Tr 27 (ksize_ct n r) := by
  refine ⟨fun args H g av objs hF hg ρ w vals hG hp ha => ?_, _, Try.func27, by kernel_rfl, by kernel_rfl⟩
  obtain ⟨x0, rfl⟩ : ∃ x0, args = [x0] := by
    unfold ksize_ct at hF; split at hF
    · exact ⟨_, rfl⟩
    · cases hF
  cases e0 : aW H x0 with
  | none => simp only [ksize_ct, e0, reduceCtorEq] at hF
  | some l0 =>
  simp only [ksize_ct, e0, Option.some.injEq, Prod.mk.injEq] at hF
  obtain ⟨rfl, rfl, rfl⟩ := hF
  obtain ⟨v0, vals, rfl, k0, ha⟩ := F2.inv ha
  obtain rfl := F2.inv0 ha
  have hI : ∀ w', Kp (noB (fun _ => undef)) w w' → Tr w' := fun _ hk => Tr.keep hk.below hG
  have h : ksize n l0 = some r := hg
  obtain ⟨p0, s0, o0⟩ := aW_ok hp e0 (k0) 47
  have hR0 := rel0 (gv := (fun _ => undef)) (n := 19) (w := w) (args := [.c (.wh 0)]) (H := [⟨.ro false, 47, 1, l0.length, .w l0⟩]) (gl := []) (hpL (ps := [p0]) (F2.cons o0 F2.nil)) (allRo_ok rfl) (F2.cons s0 F2.nil) GlR.nil (by simp)
  clear ha hp hg k0 e0
  refine calls_W Try.func27 rfl rfl hR0 (Q := fun e s => (e = .ret ∨ e = .normal) ∧ s = ksize_R r) ?_ ?_
  · clear hR0
    unfold ksize at h
    have hT := tabO_rb
    refine W_seq ?_
    refine W_reg hT ftL_nil [] [] [0] [0] (s' := ⟨[(0, .c (.wh 0))], [], [⟨(.ro false), 47, 1, l0.length, .w l0⟩]⟩) (by kernel_rfl) allP_nil ?_
    refine W_seq ?_
    refine W_seq ?_
    refine W_reg hT ftL_nil [] [] [0, 6] [0] (s' := ⟨[(0, .c (.wh 0)), (6, .c (.s (.k .i64 0)))], [], [⟨(.ro false), 47, 1, l0.length, .w l0⟩]⟩) (by kernel_rfl) allP_nil ?_
    refine W_block ?_
    refine W_co [] [0, 6] [0] (s' := (ksize_l1_E l0 0)) (by kernel_rfl) (W_lp ((ksize_l1_P n l0 r)) n (ksize_l1_M h) ?_)
    rintro fu_l1 _ ⟨i6_2, rfl, h⟩
    cases fu_l1 with
    | zero => cases h
    | succ fu_l1 =>
      refine ⟨fu_l1, rfl, ?_⟩
      rw [ksize_l1] at h
      refine W_seq ?_
      refine W_reg hT ftL_nil [] [] [0, 6, 7] [0] (s' := ⟨[(0, .c (.wh 0)), (6, .c (.s (.k .i64 i6_2))), (7, .c (.s (.b (decide (i6_2 < (129 : Int))))))], [], [⟨(.ro false), 47, 1, l0.length, .w l0⟩]⟩) (by kernel_rfl) allP_nil ?_
      refine W_seq ?_
      refine W_cond (b := (decide (i6_2 < (129 : Int)))) (by kernel_rfl) (fun g4 => ?_) (fun g4 => ?_)
      · replace h := bif_t h g4
        refine W_co [] [0, 6] [0] (s' := ⟨[(0, .c (.wh 0)), (6, .c (.s (.k .i64 i6_2)))], [], [⟨(.ro false), 47, 1, l0.length, .w l0⟩]⟩) (by kernel_rfl) (W_skip ?_)
        refine W_seq ?_
        refine W_block ?_
        refine W_seq ?_
        refine W_reg hT ftL_nil [] [] [0, 3, 6] [0] (s' := ⟨[(0, .c (.wh 0)), (3, .c (.s (.k .i64 i6_2))), (6, .c (.s (.k .i64 i6_2)))], [], [⟨(.ro false), 47, 1, l0.length, .w l0⟩]⟩) (by kernel_rfl) allP_nil ?_
        refine W_seq ?_
        obtain ⟨r12_3, g1, h⟩ := bind_some' h
        refine W_reg hT (ftL_cons (k := 2) (f := 39) (F := (pWrite_ct n r12_3)) (pWrite_ok n r12_3) (fun _ _ => True.intro) ftL_nil) [] [] [0, 3, 5, 6] [0] (s' := ⟨[(0, .c (.wh 0)), (3, .c (.s (.k .i64 i6_2))), (5, .c (.s (.er 33 .i64 r12_3.2.2))), (6, .c (.s (.k .i64 i6_2)))], [], [⟨(.ro false), 47, 1, l0.length, .w l0⟩]⟩) (by kernel_rfl) (allP_cons.2 ⟨g1, allP_nil⟩) ?_
        refine W_seq ?_
        refine W_reg hT ftL_nil [] [] [0, 3, 6, 16] [0] (s' := ⟨[(0, .c (.wh 0)), (3, .c (.s (.k .i64 i6_2))), (6, .c (.s (.k .i64 i6_2))), (16, .c (.s (.b ((r12_3.2.2).isNone))))], [], [⟨(.ro false), 47, 1, l0.length, .w l0⟩]⟩) (by kernel_rfl) allP_nil ?_
        refine W_cond (b := (r12_3.2.2).isNone) (by kernel_rfl) (fun g3 => ?_) (fun g3 => ?_)
        · replace h := bif_t h g3
          refine W_seq ?_
          refine W_reg hT ftL_nil [] [] [2] [] (s' := ⟨[(2, .c (.s (.k .i64 i6_2)))], [], []⟩) (by kernel_rfl) allP_nil ?_
          refine W_co [] [2] [] (s' := (ksize_R i6_2)) (by kernel_rfl) (W_ret ?_)
          exact ⟨.inl rfl, by cases h; rfl⟩
        · replace h := bif_f h g3
          refine W_co [] [0, 6] [0] (s' := ⟨[(0, .c (.wh 0)), (6, .c (.s (.k .i64 i6_2)))], [], [⟨(.ro false), 47, 1, l0.length, .w l0⟩]⟩) (by kernel_rfl) (W_skip ?_)
          obtain ⟨g2, h⟩ := gd_some h
          refine W_reg hT ftL_nil [] [] [0, 6] [0] (s' := (ksize_l1_E l0 (i6_2 + 1))) (by kernel_rfl) (allP_cons.2 ⟨g2, allP_nil⟩) ?_
          exact ksize_l1_M h
      · replace h := bif_f h g4
        refine W_co [] [] [] (s' := ⟨[], [], []⟩) (by kernel_rfl) (W_exit ?_)
        refine W_seq ?_
        refine W_reg hT ftL_nil [] [] [2] [] (s' := ⟨[(2, .c (.s (.k .i64 (-1))))], [], []⟩) (by kernel_rfl) allP_nil ?_
        refine W_co [] [2] [] (s' := (ksize_R (-1))) (by kernel_rfl) (W_ret ?_)
        exact ⟨.inl rfl, by cases h; rfl⟩
  · rintro e s' ⟨he, rfl⟩
    refine ⟨he, fun a' w' hr => ?_⟩
    exact retS_ok tabO_rb hr (rs := [.tmp 2]) rfl (objs := []) (by kernel_rfl)
def kodd_R (r : Bool) : S := ⟨[(2, .c (.s (.b r)))], [], []⟩
def kodd_ct (n : Nat) (r : Bool) : Ct := fun args H => match args with
  | [x0] => (match aW H x0 with | some l0 => some ([kodd n l0 = some r], shA H.length (.c (.s (.b r))), shH H.length []) | none => none)
  | _ => none
theorem kodd_ok (n : Nat) (r : Bool) : FnOk Try.prog Tr 31 (kodd_ct n r) := by
  refine ⟨fun args H g av objs hF hg ρ w vals hG hp ha => ?_, _, Try.func31, by kernel_rfl, by kernel_rfl⟩
  obtain ⟨x0, rfl⟩ : ∃ x0, args = [x0] := by
    unfold kodd_ct at hF; split at hF
    · exact ⟨_, rfl⟩
    · cases hF
  cases e0 : aW H x0 with
  | none => simp only [kodd_ct, e0, reduceCtorEq] at hF
  | some l0 =>
  simp only [kodd_ct, e0, Option.some.injEq, Prod.mk.injEq] at hF
  obtain ⟨rfl, rfl, rfl⟩ := hF
  obtain ⟨v0, vals, rfl, k0, ha⟩ := F2.inv ha
  obtain rfl := F2.inv0 ha
  have hI : ∀ w', Kp (noB (fun _ => undef)) w w' → Tr w' := fun _ hk => Tr.keep hk.below hG
  have h : kodd n l0 = some r := hg
  obtain ⟨p0, s0, o0⟩ := aW_ok hp e0 (k0) 47
  have hR0 := rel0 (gv := (fun _ => undef)) (n := 13) (w := w) (args := [.c (.wh 0)]) (H := [⟨.ro false, 47, 1, l0.length, .w l0⟩]) (gl := []) (hpL (ps := [p0]) (F2.cons o0 F2.nil)) (allRo_ok rfl) (F2.cons s0 F2.nil) GlR.nil (by simp)
  clear ha hp hg k0 e0
  refine calls_W Try.func31 rfl rfl hR0 (Q := fun e s => (e = .ret ∨ e = .normal) ∧ s = kodd_R r) ?_ ?_
  · clear hR0
    unfold kodd at h
    have hT := tabO_rb
    refine W_seq ?_
    refine W_reg hT ftL_nil [] [] [0] [0] (s' := ⟨[(0, .c (.wh 0))], [], [⟨(.ro false), 47, 1, l0.length, .w l0⟩]⟩) (by kernel_rfl) allP_nil ?_
    refine W_seq ?_
    rcases Bool.eq_false_or_eq_true (decide ((0 : Int) < ((l0.length : Nat) : Int))) with g1 | g1
    · replace h := bif_t h g1
      obtain ⟨g2, h⟩ := gd_some h
      obtain ⟨g3, h⟩ := gd_some h
      refine W_reg hT ftL_nil [(3, true)] [] [2] [] (s' := ⟨[(2, .c (.s (.b (((l0.getD 0 0) &&& (1 : UInt32)) == 1))))], [], []⟩) (by kernel_rfl) (allP_cons.2 ⟨g1, (allP_cons.2 ⟨g2, (allP_cons.2 ⟨g3, allP_nil⟩)⟩)⟩) ?_
      refine W_co [] [2] [] (s' := (kodd_R (((l0.getD 0 0) &&& (1 : UInt32)) == 1))) (by kernel_rfl) (W_ret ?_)
      exact ⟨.inl rfl, by cases h; rfl⟩
    · replace h := bif_f h g1
      refine W_reg hT ftL_nil [(3, false)] [] [2] [] (s' := ⟨[(2, .c (.s (.b false)))], [], []⟩) (by kernel_rfl) (allP_cons.2 ⟨g1, allP_nil⟩) ?_
      refine W_co [] [2] [] (s' := (kodd_R false)) (by kernel_rfl) (W_ret ?_)
      exact ⟨.inl rfl, by cases h; rfl⟩
  · rintro e s' ⟨he, rfl⟩
    refine ⟨he, fun a' w' hr => ?_⟩
    exact retS_ok tabO_rb hr (rs := [.tmp 2]) rfl (objs := []) (by kernel_rfl)
def kCheck_R (r : Option Int) : S := ⟨[(2, .c (.s (.er 33 .i64 r)))], [], []⟩
def kCheck_ct (n : Nat) (r : Option Int) : Ct := fun args H => match args with
  | [x0] => (match aGc 2 x0 with | some y0 => (match aW H (.c (y0.getD 0 .junk)) with | some l0_0 => (match aW H (.c (y0.getD 1 .junk)) with | some l0_1 => some ([kCheck n l0_0 l0_1 = some r], shA H.length (.c (.s (.er 33 .i64 r))), shH H.length []) | none => none) | none => none) | none => none)
  | _ => none
theorem kCheck_ok (n : Nat) (r : Option Int) : FnOk Try.prog Tr 15 (kCheck_ct n r) := by
  refine ⟨fun args H g av objs hF hg ρ w vals hG hp ha => ?_, _, Try.func15, by kernel_rfl, by kernel_rfl⟩
  obtain ⟨x0, rfl⟩ : ∃ x0, args = [x0] := by
    unfold kCheck_ct at hF; split at hF
    · exact ⟨_, rfl⟩
    · cases hF
  cases e0 : aGc 2 x0 with
  | none => simp only [kCheck_ct, e0, reduceCtorEq] at hF
  | some y0 =>
  cases e1 : aW H (.c (y0.getD 0 .junk)) with
  | none => simp only [kCheck_ct, e0, e1, reduceCtorEq] at hF
  | some l0_0 =>
  cases e2 : aW H (.c (y0.getD 1 .junk)) with
  | none => simp only [kCheck_ct, e0, e1, e2, reduceCtorEq] at hF
  | some l0_1 =>
  simp only [kCheck_ct, e0, e1, e2, Option.some.injEq, Prod.mk.injEq] at hF
  obtain ⟨rfl, rfl, rfl⟩ := hF
  obtain ⟨v0, vals, rfl, k0, ha⟩ := F2.inv ha
  obtain rfl := F2.inv0 ha
  have hI : ∀ w', Kp (noB (fun _ => undef)) w w' → Tr w' := fun _ hk => Tr.keep hk.below hG
  have h : kCheck n l0_0 l0_1 = some r := hg
  obtain ⟨vs0, hn0, rfl, hy0⟩ := aGc_ok e0 k0
  obtain ⟨p0_0, s0_0, o0_0⟩ := aW_ok hp e1 (hy0 0 (by decide)) 47
  obtain ⟨p0_1, s0_1, o0_1⟩ := aW_ok hp e2 (hy0 1 (by decide)) 47
  have hR0 := rel0 (gv := (fun _ => undef)) (n := 37) (w := w) (args := [.g 2 (.c [.wh 0, .wh 1])]) (H := [⟨.ro false, 47, 1, l0_0.length, .w l0_0⟩, ⟨.ro false, 47, 1, l0_1.length, .w l0_1⟩]) (gl := []) (hpL (ps := [p0_0, p0_1]) (F2.cons o0_0 (F2.cons o0_1 F2.nil))) (allRo_ok rfl) (F2.cons ⟨vs0, (by rw [lstE undef hn0]; exact (F2.cons s0_0 (F2.cons s0_1 F2.nil))), hn0, rfl⟩ F2.nil) GlR.nil (by simp)
  clear ha hp hg k0 e0 e1 e2
  refine calls_W Try.func15 rfl rfl hR0 (Q := fun e s => (e = .ret ∨ e = .normal) ∧ s = kCheck_R r) ?_ ?_
  · clear hR0
    unfold kCheck at h
    have hT := tabO_rb
    refine W_seq ?_
    refine W_reg hT ftL_nil [] [] [1] [2, 0, 1] (s' := ⟨[(1, .c (.pt 0 0))], [], [⟨.blk, 39, 1, 2, .c [.wh 1, .wh 2]⟩, ⟨(.ro false), 47, 1, l0_0.length, .w l0_0⟩, ⟨(.ro false), 47, 1, l0_1.length, .w l0_1⟩]⟩) (by kernel_rfl) allP_nil ?_
    refine W_seq ?_
    obtain ⟨r6, g1, h⟩ := bind_some' h
    refine W_reg hT (ftL_cons (k := 2) (f := 27) (F := (ksize_ct n r6)) (ksize_ok n r6) (fun _ _ => True.intro) ftL_nil) [] [] [1, 3] [0, 1, 2] (s' := ⟨[(1, .c (.pt 0 0)), (3, .c (.s (.k .i64 r6)))], [], [⟨.blk, 39, 1, 2, .c [.wh 1, .wh 2]⟩, ⟨(.ro false), 47, 1, l0_0.length, .w l0_0⟩, ⟨(.ro false), 47, 1, l0_1.length, .w l0_1⟩]⟩) (by kernel_rfl) (allP_cons.2 ⟨g1, allP_nil⟩) ?_
    refine W_seq ?_
    refine W_seq ?_
    rcases Bool.eq_false_or_eq_true (decide (r6 < (62 : Int))) with g2 | g2
    · replace h := bif_t h g2
      refine W_reg hT ftL_nil [(2, true)] [] [35] [] (s' := ⟨[(35, .c (.s (.b true)))], [], []⟩) (by kernel_rfl) (allP_cons.2 ⟨g2, allP_nil⟩) ?_
      refine W_cond (b := true) (by kernel_rfl) (fun _ => ?_) (fun hb => by cases hb)
      refine W_seq ?_
      refine W_reg hT ftL_nil [] [] [2] [] (s' := ⟨[(2, .c (.s (.er 33 .i64 (some 1))))], [], []⟩) (by kernel_rfl) allP_nil ?_
      refine W_co [] [2] [] (s' := (kCheck_R (some 1))) (by kernel_rfl) (W_ret ?_)
      exact ⟨.inl rfl, by cases h; rfl⟩
    · replace h := bif_f h g2
      obtain ⟨r12, g3, h⟩ := bind_some' h
      rcases Bool.eq_false_or_eq_true (!r12) with g4 | g4
      · replace h := bif_t h g4
        refine W_reg hT (ftL_cons (k := 5) (f := 31) (F := (kodd_ct n r12)) (kodd_ok n r12) (fun _ _ => True.intro) ftL_nil) [(2, false), (8, true)] [] [35] [] (s' := ⟨[(35, .c (.s (.b true)))], [], []⟩) (by kernel_rfl) (allP_cons.2 ⟨g2, (allP_cons.2 ⟨g3, (allP_cons.2 ⟨g4, allP_nil⟩)⟩)⟩) ?_
        refine W_cond (b := true) (by kernel_rfl) (fun _ => ?_) (fun hb => by cases hb)
        refine W_seq ?_
        refine W_reg hT ftL_nil [] [] [2] [] (s' := ⟨[(2, .c (.s (.er 33 .i64 (some 1))))], [], []⟩) (by kernel_rfl) allP_nil ?_
        refine W_co [] [2] [] (s' := (kCheck_R (some 1))) (by kernel_rfl) (W_ret ?_)
        exact ⟨.inl rfl, by cases h; rfl⟩
      · replace h := bif_f h g4
        obtain ⟨r18, g5, h⟩ := bind_some' h
        rcases Bool.eq_false_or_eq_true (!r18) with g6 | g6
        · replace h := bif_t h g6
          refine W_reg hT (ftL_cons (k := 5) (f := 31) (F := (kodd_ct n r12)) (kodd_ok n r12) (fun _ _ => True.intro) (ftL_cons (k := 11) (f := 31) (F := (kodd_ct n r18)) (kodd_ok n r18) (fun _ _ => True.intro) ftL_nil)) [(2, false), (8, false), (14, true)] [] [35] [] (s' := ⟨[(35, .c (.s (.b true)))], [], []⟩) (by kernel_rfl) (allP_cons.2 ⟨g2, (allP_cons.2 ⟨g3, (allP_cons.2 ⟨g4, (allP_cons.2 ⟨g5, (allP_cons.2 ⟨g6, allP_nil⟩)⟩)⟩)⟩)⟩) ?_
          refine W_cond (b := true) (by kernel_rfl) (fun _ => ?_) (fun hb => by cases hb)
          refine W_seq ?_
          refine W_reg hT ftL_nil [] [] [2] [] (s' := ⟨[(2, .c (.s (.er 33 .i64 (some 1))))], [], []⟩) (by kernel_rfl) allP_nil ?_
          refine W_co [] [2] [] (s' := (kCheck_R (some 1))) (by kernel_rfl) (W_ret ?_)
          exact ⟨.inl rfl, by cases h; rfl⟩
        · replace h := bif_f h g6
          obtain ⟨r25, g7, h⟩ := bind_some' h
          rcases Bool.eq_false_or_eq_true (decide (r25 < (0 : Int))) with g8 | g8
          · replace h := bif_t h g8
            refine W_reg hT (ftL_cons (k := 5) (f := 31) (F := (kodd_ct n r12)) (kodd_ok n r12) (fun _ _ => True.intro) (ftL_cons (k := 11) (f := 31) (F := (kodd_ct n r18)) (kodd_ok n r18) (fun _ _ => True.intro) (ftL_cons (k := 18) (f := 32) (F := (pCmp_ct n r25)) (pCmp_ok n r25) (fun _ _ => True.intro) ftL_nil))) [(2, false), (8, false), (14, false), (21, true)] [] [35] [] (s' := ⟨[(35, .c (.s (.b true)))], [], []⟩) (by kernel_rfl) (allP_cons.2 ⟨g2, (allP_cons.2 ⟨g3, (allP_cons.2 ⟨g4, (allP_cons.2 ⟨g5, (allP_cons.2 ⟨g6, (allP_cons.2 ⟨g7, (allP_cons.2 ⟨g8, allP_nil⟩)⟩)⟩)⟩)⟩)⟩)⟩) ?_
            refine W_cond (b := true) (by kernel_rfl) (fun _ => ?_) (fun hb => by cases hb)
            refine W_seq ?_
            refine W_reg hT ftL_nil [] [] [2] [] (s' := ⟨[(2, .c (.s (.er 33 .i64 (some 1))))], [], []⟩) (by kernel_rfl) allP_nil ?_
            refine W_co [] [2] [] (s' := (kCheck_R (some 1))) (by kernel_rfl) (W_ret ?_)
            exact ⟨.inl rfl, by cases h; rfl⟩
          · replace h := bif_f h g8
            obtain ⟨r33, g9, h⟩ := bind_some' h
            refine W_reg hT (ftL_cons (k := 5) (f := 31) (F := (kodd_ct n r12)) (kodd_ok n r12) (fun _ _ => True.intro) (ftL_cons (k := 11) (f := 31) (F := (kodd_ct n r18)) (kodd_ok n r18) (fun _ _ => True.intro) (ftL_cons (k := 18) (f := 32) (F := (pCmp_ct n r25)) (pCmp_ok n r25) (fun _ _ => True.intro) (ftL_cons (k := 26) (f := 32) (F := (pCmp_ct n r33)) (pCmp_ok n r33) (fun _ _ => True.intro) ftL_nil)))) [(2, false), (8, false), (14, false), (21, false)] [] [35] [] (s' := ⟨[(35, .c (.s (.b (decide ((0 : Int) ≤ r33)))))], [], []⟩) (by kernel_rfl) (allP_cons.2 ⟨g2, (allP_cons.2 ⟨g3, (allP_cons.2 ⟨g4, (allP_cons.2 ⟨g5, (allP_cons.2 ⟨g6, (allP_cons.2 ⟨g7, (allP_cons.2 ⟨g8, (allP_cons.2 ⟨g9, allP_nil⟩)⟩)⟩)⟩)⟩)⟩)⟩)⟩) ?_
            refine W_cond (b := (decide ((0 : Int) ≤ r33))) (by kernel_rfl) (fun g10 => ?_) (fun g10 => ?_)
            · replace h := bif_t h g10
              refine W_seq ?_
              refine W_reg hT ftL_nil [] [] [2] [] (s' := ⟨[(2, .c (.s (.er 33 .i64 (some 1))))], [], []⟩) (by kernel_rfl) allP_nil ?_
              refine W_co [] [2] [] (s' := (kCheck_R (some 1))) (by kernel_rfl) (W_ret ?_)
              exact ⟨.inl rfl, by cases h; rfl⟩
            · replace h := bif_f h g10
              refine W_co [] [] [] (s' := ⟨[], [], []⟩) (by kernel_rfl) (W_skip ?_)
              refine W_seq ?_
              refine W_reg hT ftL_nil [] [] [2] [] (s' := ⟨[(2, .c (.s (.v .nilIface)))], [], []⟩) (by kernel_rfl) allP_nil ?_
              refine W_co [.er 2 33 .i64] [2] [] (s' := (kCheck_R none)) (by kernel_rfl) (W_ret ?_)
              exact ⟨.inl rfl, by cases h; rfl⟩
  · rintro e s' ⟨he, rfl⟩
    refine ⟨he, fun a' w' hr => ?_⟩
    exact retS_ok tabO_rb hr (rs := [.tmp 2]) rfl (objs := []) (by kernel_rfl)
def ksecret_R (r : Option Int) : S := ⟨[(2, .c (.s (.er 33 .i64 r)))], [], []⟩
def ksecret_ct (n : Nat) (r : Option Int) : Ct := fun args H => match args with
  | [x0] => (match aGc 3 x0 with | some y0 => (match aW H (.c (y0.getD 0 .junk)) with | some l0_0 => (match aW H (.c (y0.getD 1 .junk)) with | some l0_1 => (match aW H (.c (y0.getD 2 .junk)) with | some l0_2 => some ([ksecret n l0_0 l0_1 l0_2 = some r], shA H.length (.c (.s (.er 33 .i64 r))), shH H.length []) | none => none) | none => none) | none => none) | none => none)
  | _ => none
theorem ksecret_ok (n : Nat) (r : Option Int) : FnOk Try.prog Tr 17 (ksecret_ct n r) := by
  refine ⟨fun args H g av objs hF hg ρ w vals hG hp ha => ?_, _, Try.func17, by kernel_rfl, by kernel_rfl⟩
  obtain ⟨x0, rfl⟩ : ∃ x0, args = [x0] := by
    unfold ksecret_ct at hF; split at hF
    · exact ⟨_, rfl⟩
    · cases hF
  cases e0 : aGc 3 x0 with
  | none => simp only [ksecret_ct, e0, reduceCtorEq] at hF
  | some y0 =>
  cases e1 : aW H (.c (y0.getD 0 .junk)) with
  | none => simp only [ksecret_ct, e0, e1, reduceCtorEq] at hF
  | some l0_0 =>
  cases e2 : aW H (.c (y0.getD 1 .junk)) with
  | none => simp only [ksecret_ct, e0, e1, e2, reduceCtorEq] at hF
  | some l0_1 =>
  cases e3 : aW H (.c (y0.getD 2 .junk)) with
  | none => simp only [ksecret_ct, e0, e1, e2, e3, reduceCtorEq] at hF
  | some l0_2 =>
  simp only [ksecret_ct, e0, e1, e2, e3, Option.some.injEq, Prod.mk.injEq] at hF
  obtain ⟨rfl, rfl, rfl⟩ := hF
  obtain ⟨v0, vals, rfl, k0, ha⟩ := F2.inv ha
  obtain rfl := F2.inv0 ha
  have hI : ∀ w', Kp (noB (fun _ => undef)) w w' → Tr w' := fun _ hk => Tr.keep hk.below hG
  have h : ksecret n l0_0 l0_1 l0_2 = some r := hg
  obtain ⟨vs0, hn0, rfl, hy0⟩ := aGc_ok e0 k0
  obtain ⟨p0_0, s0_0, o0_0⟩ := aW_ok hp e1 (hy0 0 (by decide)) 47
  obtain ⟨p0_1, s0_1, o0_1⟩ := aW_ok hp e2 (hy0 1 (by decide)) 47
  obtain ⟨p0_2, s0_2, o0_2⟩ := aW_ok hp e3 (hy0 2 (by decide)) 47
  have hR0 := rel0 (gv := (fun _ => undef)) (n := 25) (w := w) (args := [.g 3 (.c [.wh 0, .wh 1, .wh 2])]) (H := [⟨.ro false, 47, 1, l0_0.length, .w l0_0⟩, ⟨.ro false, 47, 1, l0_1.length, .w l0_1⟩, ⟨.ro false, 47, 1, l0_2.length, .w l0_2⟩]) (gl := []) (hpL (ps := [p0_0, p0_1, p0_2]) (F2.cons o0_0 (F2.cons o0_1 (F2.cons o0_2 F2.nil)))) (allRo_ok rfl) (F2.cons ⟨vs0, (by rw [lstE undef hn0]; exact (F2.cons s0_0 (F2.cons s0_1 (F2.cons s0_2 F2.nil)))), hn0, rfl⟩ F2.nil) GlR.nil (by simp)
  clear ha hp hg k0 e0 e1 e2 e3
  refine calls_W Try.func17 rfl rfl hR0 (Q := fun e s => (e = .ret ∨ e = .normal) ∧ s = ksecret_R r) ?_ ?_
  · clear hR0
    unfold ksecret at h
    have hT := tabO_rb
    refine W_seq ?_
    refine W_reg hT ftL_nil [] [] [1] [3, 0, 1, 2] (s' := ⟨[(1, .c (.pt 0 0))], [], [⟨.blk, 25, 1, 3, .c [.wh 1, .wh 2, .wh 3]⟩, ⟨(.ro false), 47, 1, l0_0.length, .w l0_0⟩, ⟨(.ro false), 47, 1, l0_1.length, .w l0_1⟩, ⟨(.ro false), 47, 1, l0_2.length, .w l0_2⟩]⟩) (by kernel_rfl) allP_nil ?_
    refine W_seq ?_
    refine W_seq ?_
    obtain ⟨r8, g1, h⟩ := bind_some' h
    rcases Bool.eq_false_or_eq_true (!((r8).isNone)) with g2 | g2
    · replace h := bif_t h g2
      refine W_reg hT (ftL_cons (k := 5) (f := 15) (F := (kCheck_ct n r8)) (kCheck_ok n r8) (fun _ _ => True.intro) ftL_nil) [(7, true)] [] [23] [] (s' := ⟨[(23, .c (.s (.b true)))], [], []⟩) (by kernel_rfl) (allP_cons.2 ⟨g1, (allP_cons.2 ⟨g2, allP_nil⟩)⟩) ?_
      refine W_cond (b := true) (by kernel_rfl) (fun _ => ?_) (fun hb => by cases hb)
      refine W_seq ?_
      refine W_reg hT ftL_nil [] [] [2] [] (s' := ⟨[(2, .c (.s (.er 33 .i64 (some 1))))], [], []⟩) (by kernel_rfl) allP_nil ?_
      refine W_co [] [2] [] (s' := (ksecret_R (some 1))) (by kernel_rfl) (W_ret ?_)
      exact ⟨.inl rfl, by cases h; rfl⟩
    · replace h := bif_f h g2
      obtain ⟨r13, g3, h⟩ := bind_some' h
      rcases Bool.eq_false_or_eq_true (r13 == 0) with g4 | g4
      · replace h := bif_t h g4
        refine W_reg hT (ftL_cons (k := 5) (f := 15) (F := (kCheck_ct n r8)) (kCheck_ok n r8) (fun _ _ => True.intro) (ftL_cons (k := 10) (f := 32) (F := (pCmp_ct n r13)) (pCmp_ok n r13) (fun _ _ => True.intro) ftL_nil)) [(7, false), (13, true)] [] [23] [] (s' := ⟨[(23, .c (.s (.b true)))], [], []⟩) (by kernel_rfl) (allP_cons.2 ⟨g1, (allP_cons.2 ⟨g2, (allP_cons.2 ⟨g3, (allP_cons.2 ⟨g4, allP_nil⟩)⟩)⟩)⟩) ?_
        refine W_cond (b := true) (by kernel_rfl) (fun _ => ?_) (fun hb => by cases hb)
        refine W_seq ?_
        refine W_reg hT ftL_nil [] [] [2] [] (s' := ⟨[(2, .c (.s (.er 33 .i64 (some 1))))], [], []⟩) (by kernel_rfl) allP_nil ?_
        refine W_co [] [2] [] (s' := (ksecret_R (some 1))) (by kernel_rfl) (W_ret ?_)
        exact ⟨.inl rfl, by cases h; rfl⟩
      · replace h := bif_f h g4
        obtain ⟨r21, g5, h⟩ := bind_some' h
        refine W_reg hT (ftL_cons (k := 5) (f := 15) (F := (kCheck_ct n r8)) (kCheck_ok n r8) (fun _ _ => True.intro) (ftL_cons (k := 10) (f := 32) (F := (pCmp_ct n r13)) (pCmp_ok n r13) (fun _ _ => True.intro) (ftL_cons (k := 18) (f := 32) (F := (pCmp_ct n r21)) (pCmp_ok n r21) (fun _ _ => True.intro) ftL_nil))) [(7, false), (13, false)] [] [23] [] (s' := ⟨[(23, .c (.s (.b (decide ((0 : Int) ≤ r21)))))], [], []⟩) (by kernel_rfl) (allP_cons.2 ⟨g1, (allP_cons.2 ⟨g2, (allP_cons.2 ⟨g3, (allP_cons.2 ⟨g4, (allP_cons.2 ⟨g5, allP_nil⟩)⟩)⟩)⟩)⟩) ?_
        refine W_cond (b := (decide ((0 : Int) ≤ r21))) (by kernel_rfl) (fun g6 => ?_) (fun g6 => ?_)
        · replace h := bif_t h g6
          refine W_seq ?_
          refine W_reg hT ftL_nil [] [] [2] [] (s' := ⟨[(2, .c (.s (.er 33 .i64 (some 1))))], [], []⟩) (by kernel_rfl) allP_nil ?_
          refine W_co [] [2] [] (s' := (ksecret_R (some 1))) (by kernel_rfl) (W_ret ?_)
          exact ⟨.inl rfl, by cases h; rfl⟩
        · replace h := bif_f h g6
          refine W_co [] [] [] (s' := ⟨[], [], []⟩) (by kernel_rfl) (W_skip ?_)
          refine W_seq ?_
          refine W_reg hT ftL_nil [] [] [2] [] (s' := ⟨[(2, .c (.s (.v .nilIface)))], [], []⟩) (by kernel_rfl) allP_nil ?_
          refine W_co [.er 2 33 .i64] [2] [] (s' := (ksecret_R none)) (by kernel_rfl) (W_ret ?_)
          exact ⟨.inl rfl, by cases h; rfl⟩
  · rintro e s' ⟨he, rfl⟩
    refine ⟨he, fun a' w' hr => ?_⟩
    exact retS_ok tabO_rb hr (rs := [.tmp 2]) rfl (objs := []) (by kernel_rfl)
def kPair_R (r : List UInt32 × Nat × List UInt32 × Nat × List UInt32 × Option Int) : S := ⟨[(6, .c (.pt 0 0)), (7, .c (.s (.er 33 .i64 r.2.2.2.2.2)))], [], [⟨.blk, 25, 1, 3, .c [.wh 1, .wh 2, .wh 3]⟩, ⟨(.ro true), 47, 1, r.2.1, .w r.1⟩, ⟨(.ro true), 47, 1, r.2.2.2.1, .w r.2.2.1⟩, ⟨.row, 47, 1, r.2.2.2.2.1.length, .w r.2.2.2.2.1⟩]⟩
def kPair_ct (n : Nat) (r : List UInt32 × Nat × List UInt32 × Nat × List UInt32 × Option Int) : Ct := fun args H => match args with
  | [x0, x1, x2] => (match aW H x0 with | some l0 => (match aW H x1 with | some l1 => (match aW H x2 with | some l2 => some ([kPair n l0 l1 l2 = some r], shA H.length (.t [.g 3 (.c [.wh 0, .wh 1, .wh 2]), .c (.s (.er 33 .i64 r.2.2.2.2.2))]), shH H.length [⟨(.ro true), 47, 1, r.2.1, .w r.1⟩, ⟨(.ro true), 47, 1, r.2.2.2.1, .w r.2.2.1⟩, ⟨.row, 47, 1, r.2.2.2.2.1.length, .w r.2.2.2.2.1⟩]) | none => none) | none => none) | none => none)
  | _ => none
theorem kPair_ok (n : Nat) (r : List UInt32 × Nat × List UInt32 × Nat × List UInt32 × Option Int) : FnOk Try.prog Tr 16 (kPair_ct n r) := by
  refine ⟨fun args H g av objs hF hg ρ w vals hG hp ha => ?_, _, Try.func16, by kernel_rfl, by kernel_rfl⟩
  obtain ⟨x0, x1, x2, rfl⟩ : ∃ x0 x1 x2, args = [x0, x1, x2] := by
    unfold kPair_ct at hF; split at hF
    · exact ⟨_, _, _, rfl⟩
    · cases hF
  cases e0 : aW H x0 with
  | none => simp only [kPair_ct, e0, reduceCtorEq] at hF
  | some l0 =>
  cases e1 : aW H x1 with
  | none => simp only [kPair_ct, e0, e1, reduceCtorEq] at hF
  | some l1 =>
  cases e2 : aW H x2 with
  | none => simp only [kPair_ct, e0, e1, e2, reduceCtorEq] at hF
  | some l2 =>
  simp only [kPair_ct, e0, e1, e2, Option.some.injEq, Prod.mk.injEq] at hF
  obtain ⟨rfl, rfl, rfl⟩ := hF
  obtain ⟨v0, vals, rfl, k0, ha⟩ := F2.inv ha
  obtain ⟨v1, vals, rfl, k1, ha⟩ := F2.inv ha
  obtain ⟨v2, vals, rfl, k2, ha⟩ := F2.inv ha
  obtain rfl := F2.inv0 ha
  have hI : ∀ w', Kp (noB (fun _ => undef)) w w' → Tr w' := fun _ hk => Tr.keep hk.below hG
  have h : kPair n l0 l1 l2 = some r := hg
  obtain ⟨p0, s0, o0⟩ := aW_ok hp e0 (k0) 47
  obtain ⟨p1, s1, o1⟩ := aW_ok hp e1 (k1) 47
  obtain ⟨p2, s2, o2⟩ := aW_ok hp e2 (k2) 47
  have hR0 := rel0 (gv := (fun _ => undef)) (n := 133) (w := w) (args := [.c (.wh 0), .c (.wh 1), .c (.wh 2)]) (H := [⟨.ro false, 47, 1, l0.length, .w l0⟩, ⟨.ro false, 47, 1, l1.length, .w l1⟩, ⟨.ro false, 47, 1, l2.length, .w l2⟩]) (gl := []) (hpL (ps := [p0, p1, p2]) (F2.cons o0 (F2.cons o1 (F2.cons o2 F2.nil)))) (allRo_ok rfl) (F2.cons s0 (F2.cons s1 (F2.cons s2 F2.nil))) GlR.nil (by simp)
  clear ha hp hg k0 k1 k2 e0 e1 e2
  refine calls_W Try.func16 rfl rfl hR0 (Q := fun e s => (e = .ret ∨ e = .normal) ∧ s = kPair_R r) ?_ ?_
  · clear hR0
    unfold kPair at h
    have hT := tabO_rb
    refine W_seq ?_
    refine W_reg hT ftL_nil [] [] [0, 1, 2, 6] [0, 1, 2, 3] (s' := ⟨[(0, .c (.wh 0)), (1, .c (.wh 1)), (2, .c (.wh 2)), (6, .c (.pt 3 0))], [], [⟨(.ro false), 47, 1, l0.length, .w l0⟩, ⟨(.ro false), 47, 1, l1.length, .w l1⟩, ⟨(.ro false), 47, 1, l2.length, .w l2⟩, ⟨.blk, 25, 1, 3, .c [.nils, .nils, .nils]⟩]⟩) (by kernel_rfl) allP_nil ?_
    refine W_seq ?_
    refine W_reg hT ftL_nil [] [] [0, 1, 2, 6, 8] [0, 1, 2, 3, 4] (s' := ⟨[(0, .c (.wh 0)), (1, .c (.wh 1)), (2, .c (.wh 2)), (6, .c (.pt 3 0)), (8, .c (.wh 4))], [], [⟨(.ro false), 47, 1, l0.length, .w l0⟩, ⟨(.ro false), 47, 1, l1.length, .w l1⟩, ⟨(.ro false), 47, 1, l2.length, .w l2⟩, ⟨.blk, 25, 1, 3, .c [.nils, .nils, .nils]⟩, ⟨.row, 47, 1, 1, .w [1]⟩]⟩) (by kernel_rfl) allP_nil ?_
    refine W_seq ?_
    refine W_seq ?_
    refine W_reg hT ftL_nil [] [] [0, 1, 2, 6, 8, 30, 31] [0, 1, 2, 3, 4] (s' := ⟨[(0, .c (.wh 0)), (1, .c (.wh 1)), (2, .c (.wh 2)), (6, .c (.pt 3 0)), (8, .c (.wh 4)), (30, .g 3 (.c [.wh 0, .wh 1, .wh 2])), (31, .c (.s (.k .i64 0)))], [], [⟨(.ro false), 47, 1, l0.length, .w l0⟩, ⟨(.ro false), 47, 1, l1.length, .w l1⟩, ⟨(.ro false), 47, 1, l2.length, .w l2⟩, ⟨.blk, 25, 1, 3, .c [.nils, .nils, .nils]⟩, ⟨.row, 47, 1, 1, .w [1]⟩]⟩) (by kernel_rfl) allP_nil ?_
    refine W_block ?_
    refine W_loop 4 ?_
    refine WL_succ ?_
    refine W_seq ?_
    refine W_reg hT ftL_nil [] [] [0, 1, 2, 6, 8, 30, 31, 32] [0, 1, 2, 3, 4] (s' := ⟨[(0, .c (.wh 0)), (1, .c (.wh 1)), (2, .c (.wh 2)), (6, .c (.pt 3 0)), (8, .c (.wh 4)), (30, .g 3 (.c [.wh 0, .wh 1, .wh 2])), (31, .c (.s (.k .i64 0))), (32, .c (.s (.b true)))], [], [⟨(.ro false), 47, 1, l0.length, .w l0⟩, ⟨(.ro false), 47, 1, l1.length, .w l1⟩, ⟨(.ro false), 47, 1, l2.length, .w l2⟩, ⟨.blk, 25, 1, 3, .c [.nils, .nils, .nils]⟩, ⟨.row, 47, 1, 1, .w [1]⟩]⟩) (by kernel_rfl) allP_nil ?_
    refine W_seq ?_
    refine W_cond (b := true) (by kernel_rfl) (fun _ => ?_) (fun hb => by cases hb)
    refine W_co [] [0, 1, 2, 6, 8, 30, 31] [0, 1, 2, 3, 4] (s' := ⟨[(0, .c (.wh 0)), (1, .c (.wh 1)), (2, .c (.wh 2)), (6, .c (.pt 3 0)), (8, .c (.wh 4)), (30, .g 3 (.c [.wh 0, .wh 1, .wh 2])), (31, .c (.s (.k .i64 0)))], [], [⟨(.ro false), 47, 1, l0.length, .w l0⟩, ⟨(.ro false), 47, 1, l1.length, .w l1⟩, ⟨(.ro false), 47, 1, l2.length, .w l2⟩, ⟨.blk, 25, 1, 3, .c [.nils, .nils, .nils]⟩, ⟨.row, 47, 1, 1, .w [1]⟩]⟩) (by kernel_rfl) (W_skip ?_)
    refine W_seq ?_
    refine W_block ?_
    refine W_seq ?_
    obtain ⟨g1, h⟩ := gd_some h
    obtain ⟨g2, h⟩ := gd_some h
    refine W_reg hT ftL_nil [] [] [0, 1, 2, 6, 8, 10, 30, 31] [0, 1, 2, 3, 4] (s' := ⟨[(0, .c (.wh 0)), (1, .c (.wh 1)), (2, .c (.wh 2)), (6, .c (.pt 3 0)), (8, .c (.wh 4)), (10, .c (.wh 0)), (30, .g 3 (.c [.wh 0, .wh 1, .wh 2])), (31, .c (.s (.k .i64 0)))], [], [⟨(.ro false), 47, 1, l0.length, .w l0⟩, ⟨(.ro false), 47, 1, l1.length, .w l1⟩, ⟨(.ro false), 47, 1, l2.length, .w l2⟩, ⟨.blk, 25, 1, 3, .c [.nils, .nils, .nils]⟩, ⟨.row, 47, 1, 1, .w [1]⟩]⟩) (by kernel_rfl) (allP_cons.2 ⟨g1, (allP_cons.2 ⟨g2, allP_nil⟩)⟩) ?_
    refine W_seq ?_
    obtain ⟨r36, g3, h⟩ := bind_some' h
    refine W_reg hT (ftL_cons (k := 1) (f := 33) (F := (pAdd_ct n r36)) (pAdd_ok n r36) (fun _ _ => True.intro) ftL_nil) [] [] [0, 1, 2, 6, 8, 12, 30, 31] [0, 1, 2, 3, 4] (s' := ⟨[(0, .c (.wh 0)), (1, .c (.wh 1)), (2, .c (.wh 2)), (6, .c (.pt 3 0)), (8, .c (.wh 4)), (12, .c (.s (.er 33 .i64 r36.2.2))), (30, .g 3 (.c [.wh 0, .wh 1, .wh 2])), (31, .c (.s (.k .i64 0)))], [], [⟨(.ro false), 47, 1, l0.length, .w l0⟩, ⟨(.ro false), 47, 1, l1.length, .w l1⟩, ⟨(.ro false), 47, 1, l2.length, .w l2⟩, ⟨.blk, 25, 1, 3, .c [.nils, .nils, .nils]⟩, ⟨.row, 47, 1, 1, .w [1]⟩]⟩) (by kernel_rfl) (allP_cons.2 ⟨g3, allP_nil⟩) ?_
    refine W_seq ?_
    refine W_reg hT ftL_nil [] [] [0, 1, 2, 6, 8, 12, 30, 31, 40] [0, 1, 2, 3, 4] (s' := ⟨[(0, .c (.wh 0)), (1, .c (.wh 1)), (2, .c (.wh 2)), (6, .c (.pt 3 0)), (8, .c (.wh 4)), (12, .c (.s (.er 33 .i64 r36.2.2))), (30, .g 3 (.c [.wh 0, .wh 1, .wh 2])), (31, .c (.s (.k .i64 0))), (40, .c (.s (.b (!((r36.2.2).isNone)))))], [], [⟨(.ro false), 47, 1, l0.length, .w l0⟩, ⟨(.ro false), 47, 1, l1.length, .w l1⟩, ⟨(.ro false), 47, 1, l2.length, .w l2⟩, ⟨.blk, 25, 1, 3, .c [.nils, .nils, .nils]⟩, ⟨.row, 47, 1, 1, .w [1]⟩]⟩) (by kernel_rfl) allP_nil ?_
    refine W_cond (b := (!((r36.2.2).isNone))) (by kernel_rfl) (fun g53 => ?_) (fun g53 => ?_)
    · replace h := bif_t h g53
      refine W_seq ?_
      refine W_reg hT ftL_nil [] [] [6, 7] [3] (s' := ⟨[(6, .c (.pt 0 0)), (7, .c (.s (.er 33 .i64 r36.2.2)))], [], [⟨.blk, 25, 1, 3, .c [.nils, .nils, .nils]⟩]⟩) (by kernel_rfl) allP_nil ?_
      refine W_co [.nlc 0 0 47 1 (.w []) (some true), .nlc 0 1 47 1 (.w []) (some true), .nlc 0 2 47 1 (.w []) none] [6, 7] [0, 1, 2, 3] (s' := (kPair_R ([], 0, [], 0, [], r36.2.2))) (by kernel_rfl) (W_ret ?_)
      exact ⟨.inl rfl, by cases h; rfl⟩
    · replace h := bif_f h g53
      refine W_co [] [0, 1, 2, 6, 8, 30, 31] [0, 1, 2, 3, 4] (s' := ⟨[(0, .c (.wh 0)), (1, .c (.wh 1)), (2, .c (.wh 2)), (6, .c (.pt 3 0)), (8, .c (.wh 4)), (30, .g 3 (.c [.wh 0, .wh 1, .wh 2])), (31, .c (.s (.k .i64 0)))], [], [⟨(.ro false), 47, 1, l0.length, .w l0⟩, ⟨(.ro false), 47, 1, l1.length, .w l1⟩, ⟨(.ro false), 47, 1, l2.length, .w l2⟩, ⟨.blk, 25, 1, 3, .c [.nils, .nils, .nils]⟩, ⟨.row, 47, 1, 1, .w [1]⟩]⟩) (by kernel_rfl) (W_skip ?_)
      obtain ⟨g4, h⟩ := gd_some h
      refine W_reg hT ftL_nil [] [] [0, 1, 2, 6, 8, 30, 31] [0, 1, 2, 3, 4] (s' := ⟨[(0, .c (.wh 0)), (1, .c (.wh 1)), (2, .c (.wh 2)), (6, .c (.pt 3 0)), (8, .c (.wh 4)), (30, .g 3 (.c [.wh 0, .wh 1, .wh 2])), (31, .c (.s (.k .i64 1)))], [], [⟨(.ro false), 47, 1, l0.length, .w l0⟩, ⟨(.ro false), 47, 1, l1.length, .w l1⟩, ⟨(.ro false), 47, 1, l2.length, .w l2⟩, ⟨.blk, 25, 1, 3, .c [.nils, .nils, .nils]⟩, ⟨.row, 47, 1, 1, .w [1]⟩]⟩) (by kernel_rfl) (allP_cons.2 ⟨g4, allP_nil⟩) ?_
      refine WL_succ ?_
      refine W_seq ?_
      refine W_reg hT ftL_nil [] [] [0, 1, 2, 6, 8, 30, 31, 32] [0, 1, 2, 3, 4] (s' := ⟨[(0, .c (.wh 0)), (1, .c (.wh 1)), (2, .c (.wh 2)), (6, .c (.pt 3 0)), (8, .c (.wh 4)), (30, .g 3 (.c [.wh 0, .wh 1, .wh 2])), (31, .c (.s (.k .i64 1))), (32, .c (.s (.b true)))], [], [⟨(.ro false), 47, 1, l0.length, .w l0⟩, ⟨(.ro false), 47, 1, l1.length, .w l1⟩, ⟨(.ro false), 47, 1, l2.length, .w l2⟩, ⟨.blk, 25, 1, 3, .c [.nils, .nils, .nils]⟩, ⟨.row, 47, 1, 1, .w [1]⟩]⟩) (by kernel_rfl) allP_nil ?_
      refine W_seq ?_
      refine W_cond (b := true) (by kernel_rfl) (fun _ => ?_) (fun hb => by cases hb)
      refine W_co [] [0, 1, 2, 6, 8, 30, 31] [0, 1, 2, 3, 4] (s' := ⟨[(0, .c (.wh 0)), (1, .c (.wh 1)), (2, .c (.wh 2)), (6, .c (.pt 3 0)), (8, .c (.wh 4)), (30, .g 3 (.c [.wh 0, .wh 1, .wh 2])), (31, .c (.s (.k .i64 1)))], [], [⟨(.ro false), 47, 1, l0.length, .w l0⟩, ⟨(.ro false), 47, 1, l1.length, .w l1⟩, ⟨(.ro false), 47, 1, l2.length, .w l2⟩, ⟨.blk, 25, 1, 3, .c [.nils, .nils, .nils]⟩, ⟨.row, 47, 1, 1, .w [1]⟩]⟩) (by kernel_rfl) (W_skip ?_)
      refine W_seq ?_
      refine W_block ?_
      refine W_seq ?_
      obtain ⟨g5, h⟩ := gd_some h
      obtain ⟨g6, h⟩ := gd_some h
      refine W_reg hT ftL_nil [] [] [0, 1, 2, 6, 8, 10, 30, 31] [0, 1, 2, 3, 4] (s' := ⟨[(0, .c (.wh 0)), (1, .c (.wh 1)), (2, .c (.wh 2)), (6, .c (.pt 3 0)), (8, .c (.wh 4)), (10, .c (.wh 1)), (30, .g 3 (.c [.wh 0, .wh 1, .wh 2])), (31, .c (.s (.k .i64 1)))], [], [⟨(.ro false), 47, 1, l0.length, .w l0⟩, ⟨(.ro false), 47, 1, l1.length, .w l1⟩, ⟨(.ro false), 47, 1, l2.length, .w l2⟩, ⟨.blk, 25, 1, 3, .c [.nils, .nils, .nils]⟩, ⟨.row, 47, 1, 1, .w [1]⟩]⟩) (by kernel_rfl) (allP_cons.2 ⟨g5, (allP_cons.2 ⟨g6, allP_nil⟩)⟩) ?_
      refine W_seq ?_
      obtain ⟨r36_1, g7, h⟩ := bind_some' h
      refine W_reg hT (ftL_cons (k := 1) (f := 33) (F := (pAdd_ct n r36_1)) (pAdd_ok n r36_1) (fun _ _ => True.intro) ftL_nil) [] [] [0, 1, 2, 6, 8, 12, 30, 31] [0, 1, 2, 3, 4] (s' := ⟨[(0, .c (.wh 0)), (1, .c (.wh 1)), (2, .c (.wh 2)), (6, .c (.pt 3 0)), (8, .c (.wh 4)), (12, .c (.s (.er 33 .i64 r36_1.2.2))), (30, .g 3 (.c [.wh 0, .wh 1, .wh 2])), (31, .c (.s (.k .i64 1)))], [], [⟨(.ro false), 47, 1, l0.length, .w l0⟩, ⟨(.ro false), 47, 1, l1.length, .w l1⟩, ⟨(.ro false), 47, 1, l2.length, .w l2⟩, ⟨.blk, 25, 1, 3, .c [.nils, .nils, .nils]⟩, ⟨.row, 47, 1, 1, .w [1]⟩]⟩) (by kernel_rfl) (allP_cons.2 ⟨g7, allP_nil⟩) ?_
      refine W_seq ?_
      refine W_reg hT ftL_nil [] [] [0, 1, 2, 6, 8, 12, 30, 31, 40] [0, 1, 2, 3, 4] (s' := ⟨[(0, .c (.wh 0)), (1, .c (.wh 1)), (2, .c (.wh 2)), (6, .c (.pt 3 0)), (8, .c (.wh 4)), (12, .c (.s (.er 33 .i64 r36_1.2.2))), (30, .g 3 (.c [.wh 0, .wh 1, .wh 2])), (31, .c (.s (.k .i64 1))), (40, .c (.s (.b (!((r36_1.2.2).isNone)))))], [], [⟨(.ro false), 47, 1, l0.length, .w l0⟩, ⟨(.ro false), 47, 1, l1.length, .w l1⟩, ⟨(.ro false), 47, 1, l2.length, .w l2⟩, ⟨.blk, 25, 1, 3, .c [.nils, .nils, .nils]⟩, ⟨.row, 47, 1, 1, .w [1]⟩]⟩) (by kernel_rfl) allP_nil ?_
      refine W_cond (b := (!((r36_1.2.2).isNone))) (by kernel_rfl) (fun g52 => ?_) (fun g52 => ?_)
      · replace h := bif_t h g52
        refine W_seq ?_
        refine W_reg hT ftL_nil [] [] [6, 7] [3] (s' := ⟨[(6, .c (.pt 0 0)), (7, .c (.s (.er 33 .i64 r36_1.2.2)))], [], [⟨.blk, 25, 1, 3, .c [.nils, .nils, .nils]⟩]⟩) (by kernel_rfl) allP_nil ?_
        refine W_co [.nlc 0 0 47 1 (.w []) (some true), .nlc 0 1 47 1 (.w []) (some true), .nlc 0 2 47 1 (.w []) none] [6, 7] [0, 1, 2, 3] (s' := (kPair_R ([], 0, [], 0, [], r36_1.2.2))) (by kernel_rfl) (W_ret ?_)
        exact ⟨.inl rfl, by cases h; rfl⟩
      · replace h := bif_f h g52
        refine W_co [] [0, 1, 2, 6, 8, 30, 31] [0, 1, 2, 3, 4] (s' := ⟨[(0, .c (.wh 0)), (1, .c (.wh 1)), (2, .c (.wh 2)), (6, .c (.pt 3 0)), (8, .c (.wh 4)), (30, .g 3 (.c [.wh 0, .wh 1, .wh 2])), (31, .c (.s (.k .i64 1)))], [], [⟨(.ro false), 47, 1, l0.length, .w l0⟩, ⟨(.ro false), 47, 1, l1.length, .w l1⟩, ⟨(.ro false), 47, 1, l2.length, .w l2⟩, ⟨.blk, 25, 1, 3, .c [.nils, .nils, .nils]⟩, ⟨.row, 47, 1, 1, .w [1]⟩]⟩) (by kernel_rfl) (W_skip ?_)
        obtain ⟨g8, h⟩ := gd_some h
        refine W_reg hT ftL_nil [] [] [0, 1, 2, 6, 8, 30, 31] [0, 1, 2, 3, 4] (s' := ⟨[(0, .c (.wh 0)), (1, .c (.wh 1)), (2, .c (.wh 2)), (6, .c (.pt 3 0)), (8, .c (.wh 4)), (30, .g 3 (.c [.wh 0, .wh 1, .wh 2])), (31, .c (.s (.k .i64 2)))], [], [⟨(.ro false), 47, 1, l0.length, .w l0⟩, ⟨(.ro false), 47, 1, l1.length, .w l1⟩, ⟨(.ro false), 47, 1, l2.length, .w l2⟩, ⟨.blk, 25, 1, 3, .c [.nils, .nils, .nils]⟩, ⟨.row, 47, 1, 1, .w [1]⟩]⟩) (by kernel_rfl) (allP_cons.2 ⟨g8, allP_nil⟩) ?_
        refine WL_succ ?_
        refine W_seq ?_
        refine W_reg hT ftL_nil [] [] [0, 1, 2, 6, 8, 30, 31, 32] [0, 1, 2, 3, 4] (s' := ⟨[(0, .c (.wh 0)), (1, .c (.wh 1)), (2, .c (.wh 2)), (6, .c (.pt 3 0)), (8, .c (.wh 4)), (30, .g 3 (.c [.wh 0, .wh 1, .wh 2])), (31, .c (.s (.k .i64 2))), (32, .c (.s (.b true)))], [], [⟨(.ro false), 47, 1, l0.length, .w l0⟩, ⟨(.ro false), 47, 1, l1.length, .w l1⟩, ⟨(.ro false), 47, 1, l2.length, .w l2⟩, ⟨.blk, 25, 1, 3, .c [.nils, .nils, .nils]⟩, ⟨.row, 47, 1, 1, .w [1]⟩]⟩) (by kernel_rfl) allP_nil ?_
        refine W_seq ?_
        refine W_cond (b := true) (by kernel_rfl) (fun _ => ?_) (fun hb => by cases hb)
        refine W_co [] [0, 1, 2, 6, 8, 30, 31] [0, 1, 2, 3, 4] (s' := ⟨[(0, .c (.wh 0)), (1, .c (.wh 1)), (2, .c (.wh 2)), (6, .c (.pt 3 0)), (8, .c (.wh 4)), (30, .g 3 (.c [.wh 0, .wh 1, .wh 2])), (31, .c (.s (.k .i64 2)))], [], [⟨(.ro false), 47, 1, l0.length, .w l0⟩, ⟨(.ro false), 47, 1, l1.length, .w l1⟩, ⟨(.ro false), 47, 1, l2.length, .w l2⟩, ⟨.blk, 25, 1, 3, .c [.nils, .nils, .nils]⟩, ⟨.row, 47, 1, 1, .w [1]⟩]⟩) (by kernel_rfl) (W_skip ?_)
        refine W_seq ?_
        refine W_block ?_
        refine W_seq ?_
        obtain ⟨g9, h⟩ := gd_some h
        obtain ⟨g10, h⟩ := gd_some h
        refine W_reg hT ftL_nil [] [] [0, 1, 2, 6, 8, 10, 30, 31] [0, 1, 2, 3, 4] (s' := ⟨[(0, .c (.wh 0)), (1, .c (.wh 1)), (2, .c (.wh 2)), (6, .c (.pt 3 0)), (8, .c (.wh 4)), (10, .c (.wh 2)), (30, .g 3 (.c [.wh 0, .wh 1, .wh 2])), (31, .c (.s (.k .i64 2)))], [], [⟨(.ro false), 47, 1, l0.length, .w l0⟩, ⟨(.ro false), 47, 1, l1.length, .w l1⟩, ⟨(.ro false), 47, 1, l2.length, .w l2⟩, ⟨.blk, 25, 1, 3, .c [.nils, .nils, .nils]⟩, ⟨.row, 47, 1, 1, .w [1]⟩]⟩) (by kernel_rfl) (allP_cons.2 ⟨g9, (allP_cons.2 ⟨g10, allP_nil⟩)⟩) ?_
        refine W_seq ?_
        obtain ⟨r36_2, g11, h⟩ := bind_some' h
        refine W_reg hT (ftL_cons (k := 1) (f := 33) (F := (pAdd_ct n r36_2)) (pAdd_ok n r36_2) (fun _ _ => True.intro) ftL_nil) [] [] [0, 1, 2, 6, 8, 12, 30, 31] [0, 1, 2, 3, 4] (s' := ⟨[(0, .c (.wh 0)), (1, .c (.wh 1)), (2, .c (.wh 2)), (6, .c (.pt 3 0)), (8, .c (.wh 4)), (12, .c (.s (.er 33 .i64 r36_2.2.2))), (30, .g 3 (.c [.wh 0, .wh 1, .wh 2])), (31, .c (.s (.k .i64 2)))], [], [⟨(.ro false), 47, 1, l0.length, .w l0⟩, ⟨(.ro false), 47, 1, l1.length, .w l1⟩, ⟨(.ro false), 47, 1, l2.length, .w l2⟩, ⟨.blk, 25, 1, 3, .c [.nils, .nils, .nils]⟩, ⟨.row, 47, 1, 1, .w [1]⟩]⟩) (by kernel_rfl) (allP_cons.2 ⟨g11, allP_nil⟩) ?_
        refine W_seq ?_
        refine W_reg hT ftL_nil [] [] [0, 1, 2, 6, 8, 12, 30, 31, 40] [0, 1, 2, 3, 4] (s' := ⟨[(0, .c (.wh 0)), (1, .c (.wh 1)), (2, .c (.wh 2)), (6, .c (.pt 3 0)), (8, .c (.wh 4)), (12, .c (.s (.er 33 .i64 r36_2.2.2))), (30, .g 3 (.c [.wh 0, .wh 1, .wh 2])), (31, .c (.s (.k .i64 2))), (40, .c (.s (.b (!((r36_2.2.2).isNone)))))], [], [⟨(.ro false), 47, 1, l0.length, .w l0⟩, ⟨(.ro false), 47, 1, l1.length, .w l1⟩, ⟨(.ro false), 47, 1, l2.length, .w l2⟩, ⟨.blk, 25, 1, 3, .c [.nils, .nils, .nils]⟩, ⟨.row, 47, 1, 1, .w [1]⟩]⟩) (by kernel_rfl) allP_nil ?_
        refine W_cond (b := (!((r36_2.2.2).isNone))) (by kernel_rfl) (fun g51 => ?_) (fun g51 => ?_)
        · replace h := bif_t h g51
          refine W_seq ?_
          refine W_reg hT ftL_nil [] [] [6, 7] [3] (s' := ⟨[(6, .c (.pt 0 0)), (7, .c (.s (.er 33 .i64 r36_2.2.2)))], [], [⟨.blk, 25, 1, 3, .c [.nils, .nils, .nils]⟩]⟩) (by kernel_rfl) allP_nil ?_
          refine W_co [.nlc 0 0 47 1 (.w []) (some true), .nlc 0 1 47 1 (.w []) (some true), .nlc 0 2 47 1 (.w []) none] [6, 7] [0, 1, 2, 3] (s' := (kPair_R ([], 0, [], 0, [], r36_2.2.2))) (by kernel_rfl) (W_ret ?_)
          exact ⟨.inl rfl, by cases h; rfl⟩
        · replace h := bif_f h g51
          refine W_co [] [0, 1, 2, 6, 8, 30, 31] [0, 1, 2, 3, 4] (s' := ⟨[(0, .c (.wh 0)), (1, .c (.wh 1)), (2, .c (.wh 2)), (6, .c (.pt 3 0)), (8, .c (.wh 4)), (30, .g 3 (.c [.wh 0, .wh 1, .wh 2])), (31, .c (.s (.k .i64 2)))], [], [⟨(.ro false), 47, 1, l0.length, .w l0⟩, ⟨(.ro false), 47, 1, l1.length, .w l1⟩, ⟨(.ro false), 47, 1, l2.length, .w l2⟩, ⟨.blk, 25, 1, 3, .c [.nils, .nils, .nils]⟩, ⟨.row, 47, 1, 1, .w [1]⟩]⟩) (by kernel_rfl) (W_skip ?_)
          obtain ⟨g12, h⟩ := gd_some h
          refine W_reg hT ftL_nil [] [] [0, 1, 2, 6, 8, 30, 31] [0, 1, 2, 3, 4] (s' := ⟨[(0, .c (.wh 0)), (1, .c (.wh 1)), (2, .c (.wh 2)), (6, .c (.pt 3 0)), (8, .c (.wh 4)), (30, .g 3 (.c [.wh 0, .wh 1, .wh 2])), (31, .c (.s (.k .i64 3)))], [], [⟨(.ro false), 47, 1, l0.length, .w l0⟩, ⟨(.ro false), 47, 1, l1.length, .w l1⟩, ⟨(.ro false), 47, 1, l2.length, .w l2⟩, ⟨.blk, 25, 1, 3, .c [.nils, .nils, .nils]⟩, ⟨.row, 47, 1, 1, .w [1]⟩]⟩) (by kernel_rfl) (allP_cons.2 ⟨g12, allP_nil⟩) ?_
          refine WL_succ ?_
          refine W_seq ?_
          refine W_reg hT ftL_nil [] [] [0, 1, 2, 6, 8, 30, 31, 32] [0, 1, 2, 3, 4] (s' := ⟨[(0, .c (.wh 0)), (1, .c (.wh 1)), (2, .c (.wh 2)), (6, .c (.pt 3 0)), (8, .c (.wh 4)), (30, .g 3 (.c [.wh 0, .wh 1, .wh 2])), (31, .c (.s (.k .i64 3))), (32, .c (.s (.b false)))], [], [⟨(.ro false), 47, 1, l0.length, .w l0⟩, ⟨(.ro false), 47, 1, l1.length, .w l1⟩, ⟨(.ro false), 47, 1, l2.length, .w l2⟩, ⟨.blk, 25, 1, 3, .c [.nils, .nils, .nils]⟩, ⟨.row, 47, 1, 1, .w [1]⟩]⟩) (by kernel_rfl) allP_nil ?_
          refine W_seq ?_
          refine W_cond (b := false) (by kernel_rfl) (fun hb => by cases hb) (fun _ => ?_)
          refine W_co [] [0, 1, 2, 6, 8] [0, 1, 2, 3, 4] (s' := ⟨[(0, .c (.wh 0)), (1, .c (.wh 1)), (2, .c (.wh 2)), (6, .c (.pt 3 0)), (8, .c (.wh 4))], [], [⟨(.ro false), 47, 1, l0.length, .w l0⟩, ⟨(.ro false), 47, 1, l1.length, .w l1⟩, ⟨(.ro false), 47, 1, l2.length, .w l2⟩, ⟨.blk, 25, 1, 3, .c [.nils, .nils, .nils]⟩, ⟨.row, 47, 1, 1, .w [1]⟩]⟩) (by kernel_rfl) (W_exit ?_)
          refine W_seq ?_
          refine W_reg hT ftL_nil [] [] [0, 1, 2, 6, 8, 13] [0, 1, 2, 3, 4, 5] (s' := ⟨[(0, .c (.wh 0)), (1, .c (.wh 1)), (2, .c (.wh 2)), (6, .c (.pt 3 0)), (8, .c (.wh 4)), (13, .c (.pt 5 0))], [], [⟨(.ro false), 47, 1, l0.length, .w l0⟩, ⟨(.ro false), 47, 1, l1.length, .w l1⟩, ⟨(.ro false), 47, 1, l2.length, .w l2⟩, ⟨.blk, 25, 1, 3, .c [.nils, .nils, .nils]⟩, ⟨.row, 47, 1, 1, .w [1]⟩, ⟨.blk, 69, 1, 2, .c [.nils, .nils]⟩]⟩) (by kernel_rfl) allP_nil ?_
          refine W_seq ?_
          refine W_seq ?_
          refine W_reg hT ftL_nil [] [] [0, 1, 2, 6, 8, 13, 46, 47] [0, 1, 2, 3, 4, 5] (s' := ⟨[(0, .c (.wh 0)), (1, .c (.wh 1)), (2, .c (.wh 2)), (6, .c (.pt 3 0)), (8, .c (.wh 4)), (13, .c (.pt 5 0)), (46, .g 2 (.c [.wh 0, .wh 1])), (47, .c (.s (.k .i64 0)))], [], [⟨(.ro false), 47, 1, l0.length, .w l0⟩, ⟨(.ro false), 47, 1, l1.length, .w l1⟩, ⟨(.ro false), 47, 1, l2.length, .w l2⟩, ⟨.blk, 25, 1, 3, .c [.nils, .nils, .nils]⟩, ⟨.row, 47, 1, 1, .w [1]⟩, ⟨.blk, 69, 1, 2, .c [.nils, .nils]⟩]⟩) (by kernel_rfl) allP_nil ?_
          refine W_block ?_
          refine W_loop 4 ?_
          refine WL_succ ?_
          refine W_seq ?_
          refine W_reg hT ftL_nil [] [] [0, 1, 2, 6, 8, 13, 46, 47, 48] [0, 1, 2, 3, 4, 5] (s' := ⟨[(0, .c (.wh 0)), (1, .c (.wh 1)), (2, .c (.wh 2)), (6, .c (.pt 3 0)), (8, .c (.wh 4)), (13, .c (.pt 5 0)), (46, .g 2 (.c [.wh 0, .wh 1])), (47, .c (.s (.k .i64 0))), (48, .c (.s (.b true)))], [], [⟨(.ro false), 47, 1, l0.length, .w l0⟩, ⟨(.ro false), 47, 1, l1.length, .w l1⟩, ⟨(.ro false), 47, 1, l2.length, .w l2⟩, ⟨.blk, 25, 1, 3, .c [.nils, .nils, .nils]⟩, ⟨.row, 47, 1, 1, .w [1]⟩, ⟨.blk, 69, 1, 2, .c [.nils, .nils]⟩]⟩) (by kernel_rfl) allP_nil ?_
          refine W_seq ?_
          refine W_cond (b := true) (by kernel_rfl) (fun _ => ?_) (fun hb => by cases hb)
          refine W_co [] [0, 1, 2, 6, 8, 13, 46, 47] [0, 1, 2, 3, 4, 5] (s' := ⟨[(0, .c (.wh 0)), (1, .c (.wh 1)), (2, .c (.wh 2)), (6, .c (.pt 3 0)), (8, .c (.wh 4)), (13, .c (.pt 5 0)), (46, .g 2 (.c [.wh 0, .wh 1])), (47, .c (.s (.k .i64 0)))], [], [⟨(.ro false), 47, 1, l0.length, .w l0⟩, ⟨(.ro false), 47, 1, l1.length, .w l1⟩, ⟨(.ro false), 47, 1, l2.length, .w l2⟩, ⟨.blk, 25, 1, 3, .c [.nils, .nils, .nils]⟩, ⟨.row, 47, 1, 1, .w [1]⟩, ⟨.blk, 69, 1, 2, .c [.nils, .nils]⟩]⟩) (by kernel_rfl) (W_skip ?_)
          refine W_seq ?_
          refine W_block ?_
          refine W_seq ?_
          obtain ⟨g13, h⟩ := gd_some h
          obtain ⟨g14, h⟩ := gd_some h
          refine W_reg hT ftL_nil [] [] [0, 1, 2, 6, 8, 13, 14, 15, 46, 47] [0, 1, 2, 3, 4, 5] (s' := ⟨[(0, .c (.wh 0)), (1, .c (.wh 1)), (2, .c (.wh 2)), (6, .c (.pt 3 0)), (8, .c (.wh 4)), (13, .c (.pt 5 0)), (14, .c (.s (.k .i64 0))), (15, .c (.wh 0)), (46, .g 2 (.c [.wh 0, .wh 1])), (47, .c (.s (.k .i64 0)))], [], [⟨(.ro false), 47, 1, l0.length, .w l0⟩, ⟨(.ro false), 47, 1, l1.length, .w l1⟩, ⟨(.ro false), 47, 1, l2.length, .w l2⟩, ⟨.blk, 25, 1, 3, .c [.nils, .nils, .nils]⟩, ⟨.row, 47, 1, 1, .w [1]⟩, ⟨.blk, 69, 1, 2, .c [.nils, .nils]⟩]⟩) (by kernel_rfl) (allP_cons.2 ⟨g13, (allP_cons.2 ⟨g14, allP_nil⟩)⟩) ?_
          refine W_seq ?_
          obtain ⟨r52, g15, h⟩ := bind_some' h
          refine W_reg hT (ftL_cons (k := 1) (f := 27) (F := (ksize_ct n r52)) (ksize_ok n r52) (fun _ _ => True.intro) ftL_nil) [] [] [0, 1, 2, 6, 8, 13, 14, 15, 16, 46, 47] [0, 1, 2, 3, 4, 5] (s' := ⟨[(0, .c (.wh 0)), (1, .c (.wh 1)), (2, .c (.wh 2)), (6, .c (.pt 3 0)), (8, .c (.wh 4)), (13, .c (.pt 5 0)), (14, .c (.s (.k .i64 0))), (15, .c (.wh 0)), (16, .c (.s (.k .i64 r52))), (46, .g 2 (.c [.wh 0, .wh 1])), (47, .c (.s (.k .i64 0)))], [], [⟨(.ro false), 47, 1, l0.length, .w l0⟩, ⟨(.ro false), 47, 1, l1.length, .w l1⟩, ⟨(.ro false), 47, 1, l2.length, .w l2⟩, ⟨.blk, 25, 1, 3, .c [.nils, .nils, .nils]⟩, ⟨.row, 47, 1, 1, .w [1]⟩, ⟨.blk, 69, 1, 2, .c [.nils, .nils]⟩]⟩) (by kernel_rfl) (allP_cons.2 ⟨g15, allP_nil⟩) ?_
          refine W_seq ?_
          refine W_seq ?_
          obtain ⟨r55, g16, h⟩ := bind_some' h
          rcases Bool.eq_false_or_eq_true (decide (r55 < (0 : Int))) with g17 | g17
          · replace h := bif_t h g17
            refine W_reg hT (ftL_cons (k := 2) (f := 32) (F := (pCmp_ct n r55)) (pCmp_ok n r55) (fun _ _ => True.intro) ftL_nil) [(4, true)] [] [0, 1, 2, 6, 8, 13, 14, 15, 46, 47, 64] [0, 1, 2, 3, 4, 5] (s' := ⟨[(0, .c (.wh 0)), (1, .c (.wh 1)), (2, .c (.wh 2)), (6, .c (.pt 3 0)), (8, .c (.wh 4)), (13, .c (.pt 5 0)), (14, .c (.s (.k .i64 0))), (15, .c (.wh 0)), (46, .g 2 (.c [.wh 0, .wh 1])), (47, .c (.s (.k .i64 0))), (64, .c (.s (.b true)))], [], [⟨(.ro false), 47, 1, l0.length, .w l0⟩, ⟨(.ro false), 47, 1, l1.length, .w l1⟩, ⟨(.ro false), 47, 1, l2.length, .w l2⟩, ⟨.blk, 25, 1, 3, .c [.nils, .nils, .nils]⟩, ⟨.row, 47, 1, 1, .w [1]⟩, ⟨.blk, 69, 1, 2, .c [.nils, .nils]⟩]⟩) (by kernel_rfl) (allP_cons.2 ⟨g16, (allP_cons.2 ⟨g17, allP_nil⟩)⟩) ?_
            refine W_cond (b := true) (by kernel_rfl) (fun _ => ?_) (fun hb => by cases hb)
            refine W_seq ?_
            refine W_reg hT ftL_nil [] [] [6, 7] [3] (s' := ⟨[(6, .c (.pt 0 0)), (7, .c (.s (.er 33 .i64 (some 1))))], [], [⟨.blk, 25, 1, 3, .c [.nils, .nils, .nils]⟩]⟩) (by kernel_rfl) allP_nil ?_
            refine W_co [.nlc 0 0 47 1 (.w []) (some true), .nlc 0 1 47 1 (.w []) (some true), .nlc 0 2 47 1 (.w []) none] [6, 7] [0, 1, 2, 3] (s' := (kPair_R ([], 0, [], 0, [], (some 1)))) (by kernel_rfl) (W_ret ?_)
            exact ⟨.inl rfl, by cases h; rfl⟩
          · replace h := bif_f h g17
            rcases Bool.eq_false_or_eq_true (decide (r52 < (0 : Int))) with g18 | g18
            · replace h := bif_t h g18
              refine W_reg hT (ftL_cons (k := 2) (f := 32) (F := (pCmp_ct n r55)) (pCmp_ok n r55) (fun _ _ => True.intro) ftL_nil) [(4, false), (8, true)] [] [0, 1, 2, 6, 8, 13, 14, 15, 46, 47, 64] [0, 1, 2, 3, 4, 5] (s' := ⟨[(0, .c (.wh 0)), (1, .c (.wh 1)), (2, .c (.wh 2)), (6, .c (.pt 3 0)), (8, .c (.wh 4)), (13, .c (.pt 5 0)), (14, .c (.s (.k .i64 0))), (15, .c (.wh 0)), (46, .g 2 (.c [.wh 0, .wh 1])), (47, .c (.s (.k .i64 0))), (64, .c (.s (.b true)))], [], [⟨(.ro false), 47, 1, l0.length, .w l0⟩, ⟨(.ro false), 47, 1, l1.length, .w l1⟩, ⟨(.ro false), 47, 1, l2.length, .w l2⟩, ⟨.blk, 25, 1, 3, .c [.nils, .nils, .nils]⟩, ⟨.row, 47, 1, 1, .w [1]⟩, ⟨.blk, 69, 1, 2, .c [.nils, .nils]⟩]⟩) (by kernel_rfl) (allP_cons.2 ⟨g16, (allP_cons.2 ⟨g17, (allP_cons.2 ⟨g18, allP_nil⟩)⟩)⟩) ?_
              refine W_cond (b := true) (by kernel_rfl) (fun _ => ?_) (fun hb => by cases hb)
              refine W_seq ?_
              refine W_reg hT ftL_nil [] [] [6, 7] [3] (s' := ⟨[(6, .c (.pt 0 0)), (7, .c (.s (.er 33 .i64 (some 1))))], [], [⟨.blk, 25, 1, 3, .c [.nils, .nils, .nils]⟩]⟩) (by kernel_rfl) allP_nil ?_
              refine W_co [.nlc 0 0 47 1 (.w []) (some true), .nlc 0 1 47 1 (.w []) (some true), .nlc 0 2 47 1 (.w []) none] [6, 7] [0, 1, 2, 3] (s' := (kPair_R ([], 0, [], 0, [], (some 1)))) (by kernel_rfl) (W_ret ?_)
              exact ⟨.inl rfl, by cases h; rfl⟩
            · replace h := bif_f h g18
              refine W_reg hT (ftL_cons (k := 2) (f := 32) (F := (pCmp_ct n r55)) (pCmp_ok n r55) (fun _ _ => True.intro) ftL_nil) [(4, false), (8, false)] [] [0, 1, 2, 6, 8, 13, 14, 15, 46, 47, 64] [0, 1, 2, 3, 4, 5] (s' := ⟨[(0, .c (.wh 0)), (1, .c (.wh 1)), (2, .c (.wh 2)), (6, .c (.pt 3 0)), (8, .c (.wh 4)), (13, .c (.pt 5 0)), (14, .c (.s (.k .i64 0))), (15, .c (.wh 0)), (46, .g 2 (.c [.wh 0, .wh 1])), (47, .c (.s (.k .i64 0))), (64, .c (.s (.b (decide ((64 : Int) < r52)))))], [], [⟨(.ro false), 47, 1, l0.length, .w l0⟩, ⟨(.ro false), 47, 1, l1.length, .w l1⟩, ⟨(.ro false), 47, 1, l2.length, .w l2⟩, ⟨.blk, 25, 1, 3, .c [.nils, .nils, .nils]⟩, ⟨.row, 47, 1, 1, .w [1]⟩, ⟨.blk, 69, 1, 2, .c [.nils, .nils]⟩]⟩) (by kernel_rfl) (allP_cons.2 ⟨g16, (allP_cons.2 ⟨g17, (allP_cons.2 ⟨g18, allP_nil⟩)⟩)⟩) ?_
              refine W_cond (b := (decide ((64 : Int) < r52))) (by kernel_rfl) (fun g50 => ?_) (fun g50 => ?_)
              · replace h := bif_t h g50
                refine W_seq ?_
                refine W_reg hT ftL_nil [] [] [6, 7] [3] (s' := ⟨[(6, .c (.pt 0 0)), (7, .c (.s (.er 33 .i64 (some 1))))], [], [⟨.blk, 25, 1, 3, .c [.nils, .nils, .nils]⟩]⟩) (by kernel_rfl) allP_nil ?_
                refine W_co [.nlc 0 0 47 1 (.w []) (some true), .nlc 0 1 47 1 (.w []) (some true), .nlc 0 2 47 1 (.w []) none] [6, 7] [0, 1, 2, 3] (s' := (kPair_R ([], 0, [], 0, [], (some 1)))) (by kernel_rfl) (W_ret ?_)
                exact ⟨.inl rfl, by cases h; rfl⟩
              · replace h := bif_f h g50
                refine W_co [] [0, 1, 2, 6, 8, 13, 14, 15, 46, 47] [0, 1, 2, 3, 4, 5] (s' := ⟨[(0, .c (.wh 0)), (1, .c (.wh 1)), (2, .c (.wh 2)), (6, .c (.pt 3 0)), (8, .c (.wh 4)), (13, .c (.pt 5 0)), (14, .c (.s (.k .i64 0))), (15, .c (.wh 0)), (46, .g 2 (.c [.wh 0, .wh 1])), (47, .c (.s (.k .i64 0)))], [], [⟨(.ro false), 47, 1, l0.length, .w l0⟩, ⟨(.ro false), 47, 1, l1.length, .w l1⟩, ⟨(.ro false), 47, 1, l2.length, .w l2⟩, ⟨.blk, 25, 1, 3, .c [.nils, .nils, .nils]⟩, ⟨.row, 47, 1, 1, .w [1]⟩, ⟨.blk, 69, 1, 2, .c [.nils, .nils]⟩]⟩) (by kernel_rfl) (W_skip ?_)
                refine W_seq ?_
                obtain ⟨r70, g19, h⟩ := bind_some' h
                refine W_reg hT (ftL_cons (k := 2) (f := 34) (F := (pSub_ct n r70)) (pSub_ok n r70) (fun _ _ => True.intro) ftL_nil) [] [] [0, 1, 2, 6, 8, 13, 14, 17, 18, 46, 47] [0, 1, 2, 3, 4, 5, 6] (s' := ⟨[(0, .c (.wh 0)), (1, .c (.wh 1)), (2, .c (.wh 2)), (6, .c (.pt 3 0)), (8, .c (.wh 4)), (13, .c (.pt 5 0)), (14, .c (.s (.k .i64 0))), (17, .c (.wh 6)), (18, .c (.s (.er 33 .i64 r70.2.2))), (46, .g 2 (.c [.wh 0, .wh 1])), (47, .c (.s (.k .i64 0)))], [], [⟨(.ro false), 47, 1, l0.length, .w l0⟩, ⟨(.ro false), 47, 1, l1.length, .w l1⟩, ⟨(.ro false), 47, 1, l2.length, .w l2⟩, ⟨.blk, 25, 1, 3, .c [.nils, .nils, .nils]⟩, ⟨.row, 47, 1, 1, .w [1]⟩, ⟨.blk, 69, 1, 2, .c [.nils, .nils]⟩, ⟨(.ro true), 47, 1, r70.2.1, .w r70.1⟩]⟩) (by kernel_rfl) (allP_cons.2 ⟨g19, allP_nil⟩) ?_
                refine W_seq ?_
                refine W_seq ?_
                refine W_reg hT ftL_nil [] [] [0, 1, 2, 6, 8, 13, 14, 17, 18, 46, 47, 74] [0, 1, 2, 3, 4, 5, 6] (s' := ⟨[(0, .c (.wh 0)), (1, .c (.wh 1)), (2, .c (.wh 2)), (6, .c (.pt 3 0)), (8, .c (.wh 4)), (13, .c (.pt 5 0)), (14, .c (.s (.k .i64 0))), (17, .c (.wh 6)), (18, .c (.s (.er 33 .i64 r70.2.2))), (46, .g 2 (.c [.wh 0, .wh 1])), (47, .c (.s (.k .i64 0))), (74, .c (.s (.b (!((r70.2.2).isNone)))))], [], [⟨(.ro false), 47, 1, l0.length, .w l0⟩, ⟨(.ro false), 47, 1, l1.length, .w l1⟩, ⟨(.ro false), 47, 1, l2.length, .w l2⟩, ⟨.blk, 25, 1, 3, .c [.nils, .nils, .nils]⟩, ⟨.row, 47, 1, 1, .w [1]⟩, ⟨.blk, 69, 1, 2, .c [.nils, .nils]⟩, ⟨(.ro true), 47, 1, r70.2.1, .w r70.1⟩]⟩) (by kernel_rfl) allP_nil ?_
                refine W_cond (b := (!((r70.2.2).isNone))) (by kernel_rfl) (fun g49 => ?_) (fun g49 => ?_)
                · replace h := bif_t h g49
                  refine W_seq ?_
                  refine W_reg hT ftL_nil [] [] [6, 7] [3] (s' := ⟨[(6, .c (.pt 0 0)), (7, .c (.s (.er 33 .i64 r70.2.2)))], [], [⟨.blk, 25, 1, 3, .c [.nils, .nils, .nils]⟩]⟩) (by kernel_rfl) allP_nil ?_
                  refine W_co [.nlc 0 0 47 1 (.w []) (some true), .nlc 0 1 47 1 (.w []) (some true), .nlc 0 2 47 1 (.w []) none] [6, 7] [0, 1, 2, 3] (s' := (kPair_R ([], 0, [], 0, [], r70.2.2))) (by kernel_rfl) (W_ret ?_)
                  exact ⟨.inl rfl, by cases h; rfl⟩
                · replace h := bif_f h g49
                  refine W_co [] [0, 1, 2, 6, 8, 13, 14, 17, 46, 47] [0, 1, 2, 3, 4, 5, 6] (s' := ⟨[(0, .c (.wh 0)), (1, .c (.wh 1)), (2, .c (.wh 2)), (6, .c (.pt 3 0)), (8, .c (.wh 4)), (13, .c (.pt 5 0)), (14, .c (.s (.k .i64 0))), (17, .c (.wh 6)), (46, .g 2 (.c [.wh 0, .wh 1])), (47, .c (.s (.k .i64 0)))], [], [⟨(.ro false), 47, 1, l0.length, .w l0⟩, ⟨(.ro false), 47, 1, l1.length, .w l1⟩, ⟨(.ro false), 47, 1, l2.length, .w l2⟩, ⟨.blk, 25, 1, 3, .c [.nils, .nils, .nils]⟩, ⟨.row, 47, 1, 1, .w [1]⟩, ⟨.blk, 69, 1, 2, .c [.nils, .nils]⟩, ⟨(.ro true), 47, 1, r70.2.1, .w r70.1⟩]⟩) (by kernel_rfl) (W_skip ?_)
                  obtain ⟨g20, h⟩ := gd_some h
                  obtain ⟨g21, h⟩ := gd_some h
                  refine W_reg hT ftL_nil [] [] [0, 1, 2, 6, 8, 13, 46, 47] [0, 1, 2, 3, 4, 5, 6] (s' := ⟨[(0, .c (.wh 0)), (1, .c (.wh 1)), (2, .c (.wh 2)), (6, .c (.pt 3 0)), (8, .c (.wh 4)), (13, .c (.pt 5 0)), (46, .g 2 (.c [.wh 0, .wh 1])), (47, .c (.s (.k .i64 0)))], [], [⟨(.ro false), 47, 1, l0.length, .w l0⟩, ⟨(.ro false), 47, 1, l1.length, .w l1⟩, ⟨(.ro false), 47, 1, l2.length, .w l2⟩, ⟨.blk, 25, 1, 3, .c [.nils, .nils, .nils]⟩, ⟨.row, 47, 1, 1, .w [1]⟩, ⟨.blk, 69, 1, 2, .c [.wh 6, .nils]⟩, ⟨(.ro true), 47, 1, r70.2.1, .w r70.1⟩]⟩) (by kernel_rfl) (allP_cons.2 ⟨g20, (allP_cons.2 ⟨g21, allP_nil⟩)⟩) ?_
                  obtain ⟨g22, h⟩ := gd_some h
                  refine W_reg hT ftL_nil [] [] [0, 1, 2, 6, 8, 13, 46, 47] [0, 1, 2, 3, 4, 5, 6] (s' := ⟨[(0, .c (.wh 0)), (1, .c (.wh 1)), (2, .c (.wh 2)), (6, .c (.pt 3 0)), (8, .c (.wh 4)), (13, .c (.pt 5 0)), (46, .g 2 (.c [.wh 0, .wh 1])), (47, .c (.s (.k .i64 1)))], [], [⟨(.ro false), 47, 1, l0.length, .w l0⟩, ⟨(.ro false), 47, 1, l1.length, .w l1⟩, ⟨(.ro false), 47, 1, l2.length, .w l2⟩, ⟨.blk, 25, 1, 3, .c [.nils, .nils, .nils]⟩, ⟨.row, 47, 1, 1, .w [1]⟩, ⟨.blk, 69, 1, 2, .c [.wh 6, .nils]⟩, ⟨(.ro true), 47, 1, r70.2.1, .w r70.1⟩]⟩) (by kernel_rfl) (allP_cons.2 ⟨g22, allP_nil⟩) ?_
                  refine WL_succ ?_
                  refine W_seq ?_
                  refine W_reg hT ftL_nil [] [] [0, 1, 2, 6, 8, 13, 46, 47, 48] [0, 1, 2, 3, 4, 5, 6] (s' := ⟨[(0, .c (.wh 0)), (1, .c (.wh 1)), (2, .c (.wh 2)), (6, .c (.pt 3 0)), (8, .c (.wh 4)), (13, .c (.pt 5 0)), (46, .g 2 (.c [.wh 0, .wh 1])), (47, .c (.s (.k .i64 1))), (48, .c (.s (.b true)))], [], [⟨(.ro false), 47, 1, l0.length, .w l0⟩, ⟨(.ro false), 47, 1, l1.length, .w l1⟩, ⟨(.ro false), 47, 1, l2.length, .w l2⟩, ⟨.blk, 25, 1, 3, .c [.nils, .nils, .nils]⟩, ⟨.row, 47, 1, 1, .w [1]⟩, ⟨.blk, 69, 1, 2, .c [.wh 6, .nils]⟩, ⟨(.ro true), 47, 1, r70.2.1, .w r70.1⟩]⟩) (by kernel_rfl) allP_nil ?_
                  refine W_seq ?_
                  refine W_cond (b := true) (by kernel_rfl) (fun _ => ?_) (fun hb => by cases hb)
                  refine W_co [] [0, 1, 2, 6, 8, 13, 46, 47] [0, 1, 2, 3, 4, 5, 6] (s' := ⟨[(0, .c (.wh 0)), (1, .c (.wh 1)), (2, .c (.wh 2)), (6, .c (.pt 3 0)), (8, .c (.wh 4)), (13, .c (.pt 5 0)), (46, .g 2 (.c [.wh 0, .wh 1])), (47, .c (.s (.k .i64 1)))], [], [⟨(.ro false), 47, 1, l0.length, .w l0⟩, ⟨(.ro false), 47, 1, l1.length, .w l1⟩, ⟨(.ro false), 47, 1, l2.length, .w l2⟩, ⟨.blk, 25, 1, 3, .c [.nils, .nils, .nils]⟩, ⟨.row, 47, 1, 1, .w [1]⟩, ⟨.blk, 69, 1, 2, .c [.wh 6, .nils]⟩, ⟨(.ro true), 47, 1, r70.2.1, .w r70.1⟩]⟩) (by kernel_rfl) (W_skip ?_)
                  refine W_seq ?_
                  refine W_block ?_
                  refine W_seq ?_
                  obtain ⟨g23, h⟩ := gd_some h
                  obtain ⟨g24, h⟩ := gd_some h
                  refine W_reg hT ftL_nil [] [] [0, 1, 2, 6, 8, 13, 14, 15, 46, 47] [0, 1, 2, 3, 4, 5, 6] (s' := ⟨[(0, .c (.wh 0)), (1, .c (.wh 1)), (2, .c (.wh 2)), (6, .c (.pt 3 0)), (8, .c (.wh 4)), (13, .c (.pt 5 0)), (14, .c (.s (.k .i64 1))), (15, .c (.wh 1)), (46, .g 2 (.c [.wh 0, .wh 1])), (47, .c (.s (.k .i64 1)))], [], [⟨(.ro false), 47, 1, l0.length, .w l0⟩, ⟨(.ro false), 47, 1, l1.length, .w l1⟩, ⟨(.ro false), 47, 1, l2.length, .w l2⟩, ⟨.blk, 25, 1, 3, .c [.nils, .nils, .nils]⟩, ⟨.row, 47, 1, 1, .w [1]⟩, ⟨.blk, 69, 1, 2, .c [.wh 6, .nils]⟩, ⟨(.ro true), 47, 1, r70.2.1, .w r70.1⟩]⟩) (by kernel_rfl) (allP_cons.2 ⟨g23, (allP_cons.2 ⟨g24, allP_nil⟩)⟩) ?_
                  refine W_seq ?_
                  obtain ⟨r52_1, g25, h⟩ := bind_some' h
                  refine W_reg hT (ftL_cons (k := 1) (f := 27) (F := (ksize_ct n r52_1)) (ksize_ok n r52_1) (fun _ _ => True.intro) ftL_nil) [] [] [0, 1, 2, 6, 8, 13, 14, 15, 16, 46, 47] [0, 1, 2, 3, 4, 5, 6] (s' := ⟨[(0, .c (.wh 0)), (1, .c (.wh 1)), (2, .c (.wh 2)), (6, .c (.pt 3 0)), (8, .c (.wh 4)), (13, .c (.pt 5 0)), (14, .c (.s (.k .i64 1))), (15, .c (.wh 1)), (16, .c (.s (.k .i64 r52_1))), (46, .g 2 (.c [.wh 0, .wh 1])), (47, .c (.s (.k .i64 1)))], [], [⟨(.ro false), 47, 1, l0.length, .w l0⟩, ⟨(.ro false), 47, 1, l1.length, .w l1⟩, ⟨(.ro false), 47, 1, l2.length, .w l2⟩, ⟨.blk, 25, 1, 3, .c [.nils, .nils, .nils]⟩, ⟨.row, 47, 1, 1, .w [1]⟩, ⟨.blk, 69, 1, 2, .c [.wh 6, .nils]⟩, ⟨(.ro true), 47, 1, r70.2.1, .w r70.1⟩]⟩) (by kernel_rfl) (allP_cons.2 ⟨g25, allP_nil⟩) ?_
                  refine W_seq ?_
                  refine W_seq ?_
                  obtain ⟨r55_1, g26, h⟩ := bind_some' h
                  rcases Bool.eq_false_or_eq_true (decide (r55_1 < (0 : Int))) with g27 | g27
                  · replace h := bif_t h g27
                    refine W_reg hT (ftL_cons (k := 2) (f := 32) (F := (pCmp_ct n r55_1)) (pCmp_ok n r55_1) (fun _ _ => True.intro) ftL_nil) [(4, true)] [] [0, 1, 2, 6, 8, 13, 14, 15, 46, 47, 64] [0, 1, 2, 3, 4, 5, 6] (s' := ⟨[(0, .c (.wh 0)), (1, .c (.wh 1)), (2, .c (.wh 2)), (6, .c (.pt 3 0)), (8, .c (.wh 4)), (13, .c (.pt 5 0)), (14, .c (.s (.k .i64 1))), (15, .c (.wh 1)), (46, .g 2 (.c [.wh 0, .wh 1])), (47, .c (.s (.k .i64 1))), (64, .c (.s (.b true)))], [], [⟨(.ro false), 47, 1, l0.length, .w l0⟩, ⟨(.ro false), 47, 1, l1.length, .w l1⟩, ⟨(.ro false), 47, 1, l2.length, .w l2⟩, ⟨.blk, 25, 1, 3, .c [.nils, .nils, .nils]⟩, ⟨.row, 47, 1, 1, .w [1]⟩, ⟨.blk, 69, 1, 2, .c [.wh 6, .nils]⟩, ⟨(.ro true), 47, 1, r70.2.1, .w r70.1⟩]⟩) (by kernel_rfl) (allP_cons.2 ⟨g26, (allP_cons.2 ⟨g27, allP_nil⟩)⟩) ?_
                    refine W_cond (b := true) (by kernel_rfl) (fun _ => ?_) (fun hb => by cases hb)
                    refine W_seq ?_
                    refine W_reg hT ftL_nil [] [] [6, 7] [3] (s' := ⟨[(6, .c (.pt 0 0)), (7, .c (.s (.er 33 .i64 (some 1))))], [], [⟨.blk, 25, 1, 3, .c [.nils, .nils, .nils]⟩]⟩) (by kernel_rfl) allP_nil ?_
                    refine W_co [.nlc 0 0 47 1 (.w []) (some true), .nlc 0 1 47 1 (.w []) (some true), .nlc 0 2 47 1 (.w []) none] [6, 7] [0, 1, 2, 3] (s' := (kPair_R ([], 0, [], 0, [], (some 1)))) (by kernel_rfl) (W_ret ?_)
                    exact ⟨.inl rfl, by cases h; rfl⟩
                  · replace h := bif_f h g27
                    rcases Bool.eq_false_or_eq_true (decide (r52_1 < (0 : Int))) with g28 | g28
                    · replace h := bif_t h g28
                      refine W_reg hT (ftL_cons (k := 2) (f := 32) (F := (pCmp_ct n r55_1)) (pCmp_ok n r55_1) (fun _ _ => True.intro) ftL_nil) [(4, false), (8, true)] [] [0, 1, 2, 6, 8, 13, 14, 15, 46, 47, 64] [0, 1, 2, 3, 4, 5, 6] (s' := ⟨[(0, .c (.wh 0)), (1, .c (.wh 1)), (2, .c (.wh 2)), (6, .c (.pt 3 0)), (8, .c (.wh 4)), (13, .c (.pt 5 0)), (14, .c (.s (.k .i64 1))), (15, .c (.wh 1)), (46, .g 2 (.c [.wh 0, .wh 1])), (47, .c (.s (.k .i64 1))), (64, .c (.s (.b true)))], [], [⟨(.ro false), 47, 1, l0.length, .w l0⟩, ⟨(.ro false), 47, 1, l1.length, .w l1⟩, ⟨(.ro false), 47, 1, l2.length, .w l2⟩, ⟨.blk, 25, 1, 3, .c [.nils, .nils, .nils]⟩, ⟨.row, 47, 1, 1, .w [1]⟩, ⟨.blk, 69, 1, 2, .c [.wh 6, .nils]⟩, ⟨(.ro true), 47, 1, r70.2.1, .w r70.1⟩]⟩) (by kernel_rfl) (allP_cons.2 ⟨g26, (allP_cons.2 ⟨g27, (allP_cons.2 ⟨g28, allP_nil⟩)⟩)⟩) ?_
                      refine W_cond (b := true) (by kernel_rfl) (fun _ => ?_) (fun hb => by cases hb)
                      refine W_seq ?_
                      refine W_reg hT ftL_nil [] [] [6, 7] [3] (s' := ⟨[(6, .c (.pt 0 0)), (7, .c (.s (.er 33 .i64 (some 1))))], [], [⟨.blk, 25, 1, 3, .c [.nils, .nils, .nils]⟩]⟩) (by kernel_rfl) allP_nil ?_
                      refine W_co [.nlc 0 0 47 1 (.w []) (some true), .nlc 0 1 47 1 (.w []) (some true), .nlc 0 2 47 1 (.w []) none] [6, 7] [0, 1, 2, 3] (s' := (kPair_R ([], 0, [], 0, [], (some 1)))) (by kernel_rfl) (W_ret ?_)
                      exact ⟨.inl rfl, by cases h; rfl⟩
                    · replace h := bif_f h g28
                      refine W_reg hT (ftL_cons (k := 2) (f := 32) (F := (pCmp_ct n r55_1)) (pCmp_ok n r55_1) (fun _ _ => True.intro) ftL_nil) [(4, false), (8, false)] [] [0, 1, 2, 6, 8, 13, 14, 15, 46, 47, 64] [0, 1, 2, 3, 4, 5, 6] (s' := ⟨[(0, .c (.wh 0)), (1, .c (.wh 1)), (2, .c (.wh 2)), (6, .c (.pt 3 0)), (8, .c (.wh 4)), (13, .c (.pt 5 0)), (14, .c (.s (.k .i64 1))), (15, .c (.wh 1)), (46, .g 2 (.c [.wh 0, .wh 1])), (47, .c (.s (.k .i64 1))), (64, .c (.s (.b (decide ((64 : Int) < r52_1)))))], [], [⟨(.ro false), 47, 1, l0.length, .w l0⟩, ⟨(.ro false), 47, 1, l1.length, .w l1⟩, ⟨(.ro false), 47, 1, l2.length, .w l2⟩, ⟨.blk, 25, 1, 3, .c [.nils, .nils, .nils]⟩, ⟨.row, 47, 1, 1, .w [1]⟩, ⟨.blk, 69, 1, 2, .c [.wh 6, .nils]⟩, ⟨(.ro true), 47, 1, r70.2.1, .w r70.1⟩]⟩) (by kernel_rfl) (allP_cons.2 ⟨g26, (allP_cons.2 ⟨g27, (allP_cons.2 ⟨g28, allP_nil⟩)⟩)⟩) ?_
                      refine W_cond (b := (decide ((64 : Int) < r52_1))) (by kernel_rfl) (fun g48 => ?_) (fun g48 => ?_)
                      · replace h := bif_t h g48
                        refine W_seq ?_
                        refine W_reg hT ftL_nil [] [] [6, 7] [3] (s' := ⟨[(6, .c (.pt 0 0)), (7, .c (.s (.er 33 .i64 (some 1))))], [], [⟨.blk, 25, 1, 3, .c [.nils, .nils, .nils]⟩]⟩) (by kernel_rfl) allP_nil ?_
                        refine W_co [.nlc 0 0 47 1 (.w []) (some true), .nlc 0 1 47 1 (.w []) (some true), .nlc 0 2 47 1 (.w []) none] [6, 7] [0, 1, 2, 3] (s' := (kPair_R ([], 0, [], 0, [], (some 1)))) (by kernel_rfl) (W_ret ?_)
                        exact ⟨.inl rfl, by cases h; rfl⟩
                      · replace h := bif_f h g48
                        refine W_co [] [0, 1, 2, 6, 8, 13, 14, 15, 46, 47] [0, 1, 2, 3, 4, 5, 6] (s' := ⟨[(0, .c (.wh 0)), (1, .c (.wh 1)), (2, .c (.wh 2)), (6, .c (.pt 3 0)), (8, .c (.wh 4)), (13, .c (.pt 5 0)), (14, .c (.s (.k .i64 1))), (15, .c (.wh 1)), (46, .g 2 (.c [.wh 0, .wh 1])), (47, .c (.s (.k .i64 1)))], [], [⟨(.ro false), 47, 1, l0.length, .w l0⟩, ⟨(.ro false), 47, 1, l1.length, .w l1⟩, ⟨(.ro false), 47, 1, l2.length, .w l2⟩, ⟨.blk, 25, 1, 3, .c [.nils, .nils, .nils]⟩, ⟨.row, 47, 1, 1, .w [1]⟩, ⟨.blk, 69, 1, 2, .c [.wh 6, .nils]⟩, ⟨(.ro true), 47, 1, r70.2.1, .w r70.1⟩]⟩) (by kernel_rfl) (W_skip ?_)
                        refine W_seq ?_
                        obtain ⟨r70_1, g29, h⟩ := bind_some' h
                        refine W_reg hT (ftL_cons (k := 2) (f := 34) (F := (pSub_ct n r70_1)) (pSub_ok n r70_1) (fun _ _ => True.intro) ftL_nil) [] [] [0, 1, 2, 6, 8, 13, 14, 17, 18, 46, 47] [0, 1, 2, 3, 4, 5, 6, 7] (s' := ⟨[(0, .c (.wh 0)), (1, .c (.wh 1)), (2, .c (.wh 2)), (6, .c (.pt 3 0)), (8, .c (.wh 4)), (13, .c (.pt 5 0)), (14, .c (.s (.k .i64 1))), (17, .c (.wh 7)), (18, .c (.s (.er 33 .i64 r70_1.2.2))), (46, .g 2 (.c [.wh 0, .wh 1])), (47, .c (.s (.k .i64 1)))], [], [⟨(.ro false), 47, 1, l0.length, .w l0⟩, ⟨(.ro false), 47, 1, l1.length, .w l1⟩, ⟨(.ro false), 47, 1, l2.length, .w l2⟩, ⟨.blk, 25, 1, 3, .c [.nils, .nils, .nils]⟩, ⟨.row, 47, 1, 1, .w [1]⟩, ⟨.blk, 69, 1, 2, .c [.wh 6, .nils]⟩, ⟨(.ro true), 47, 1, r70.2.1, .w r70.1⟩, ⟨(.ro true), 47, 1, r70_1.2.1, .w r70_1.1⟩]⟩) (by kernel_rfl) (allP_cons.2 ⟨g29, allP_nil⟩) ?_
                        refine W_seq ?_
                        refine W_seq ?_
                        refine W_reg hT ftL_nil [] [] [0, 1, 2, 6, 8, 13, 14, 17, 18, 46, 47, 74] [0, 1, 2, 3, 4, 5, 6, 7] (s' := ⟨[(0, .c (.wh 0)), (1, .c (.wh 1)), (2, .c (.wh 2)), (6, .c (.pt 3 0)), (8, .c (.wh 4)), (13, .c (.pt 5 0)), (14, .c (.s (.k .i64 1))), (17, .c (.wh 7)), (18, .c (.s (.er 33 .i64 r70_1.2.2))), (46, .g 2 (.c [.wh 0, .wh 1])), (47, .c (.s (.k .i64 1))), (74, .c (.s (.b (!((r70_1.2.2).isNone)))))], [], [⟨(.ro false), 47, 1, l0.length, .w l0⟩, ⟨(.ro false), 47, 1, l1.length, .w l1⟩, ⟨(.ro false), 47, 1, l2.length, .w l2⟩, ⟨.blk, 25, 1, 3, .c [.nils, .nils, .nils]⟩, ⟨.row, 47, 1, 1, .w [1]⟩, ⟨.blk, 69, 1, 2, .c [.wh 6, .nils]⟩, ⟨(.ro true), 47, 1, r70.2.1, .w r70.1⟩, ⟨(.ro true), 47, 1, r70_1.2.1, .w r70_1.1⟩]⟩) (by kernel_rfl) allP_nil ?_
                        refine W_cond (b := (!((r70_1.2.2).isNone))) (by kernel_rfl) (fun g47 => ?_) (fun g47 => ?_)
                        · replace h := bif_t h g47
                          refine W_seq ?_
                          refine W_reg hT ftL_nil [] [] [6, 7] [3] (s' := ⟨[(6, .c (.pt 0 0)), (7, .c (.s (.er 33 .i64 r70_1.2.2)))], [], [⟨.blk, 25, 1, 3, .c [.nils, .nils, .nils]⟩]⟩) (by kernel_rfl) allP_nil ?_
                          refine W_co [.nlc 0 0 47 1 (.w []) (some true), .nlc 0 1 47 1 (.w []) (some true), .nlc 0 2 47 1 (.w []) none] [6, 7] [0, 1, 2, 3] (s' := (kPair_R ([], 0, [], 0, [], r70_1.2.2))) (by kernel_rfl) (W_ret ?_)
                          exact ⟨.inl rfl, by cases h; rfl⟩
                        · replace h := bif_f h g47
                          refine W_co [] [0, 1, 2, 6, 8, 13, 14, 17, 46, 47] [0, 1, 2, 3, 4, 5, 6, 7] (s' := ⟨[(0, .c (.wh 0)), (1, .c (.wh 1)), (2, .c (.wh 2)), (6, .c (.pt 3 0)), (8, .c (.wh 4)), (13, .c (.pt 5 0)), (14, .c (.s (.k .i64 1))), (17, .c (.wh 7)), (46, .g 2 (.c [.wh 0, .wh 1])), (47, .c (.s (.k .i64 1)))], [], [⟨(.ro false), 47, 1, l0.length, .w l0⟩, ⟨(.ro false), 47, 1, l1.length, .w l1⟩, ⟨(.ro false), 47, 1, l2.length, .w l2⟩, ⟨.blk, 25, 1, 3, .c [.nils, .nils, .nils]⟩, ⟨.row, 47, 1, 1, .w [1]⟩, ⟨.blk, 69, 1, 2, .c [.wh 6, .nils]⟩, ⟨(.ro true), 47, 1, r70.2.1, .w r70.1⟩, ⟨(.ro true), 47, 1, r70_1.2.1, .w r70_1.1⟩]⟩) (by kernel_rfl) (W_skip ?_)
                          obtain ⟨g30, h⟩ := gd_some h
                          obtain ⟨g31, h⟩ := gd_some h
                          refine W_reg hT ftL_nil [] [] [0, 1, 2, 6, 8, 13, 46, 47] [0, 1, 2, 3, 4, 5, 6, 7] (s' := ⟨[(0, .c (.wh 0)), (1, .c (.wh 1)), (2, .c (.wh 2)), (6, .c (.pt 3 0)), (8, .c (.wh 4)), (13, .c (.pt 5 0)), (46, .g 2 (.c [.wh 0, .wh 1])), (47, .c (.s (.k .i64 1)))], [], [⟨(.ro false), 47, 1, l0.length, .w l0⟩, ⟨(.ro false), 47, 1, l1.length, .w l1⟩, ⟨(.ro false), 47, 1, l2.length, .w l2⟩, ⟨.blk, 25, 1, 3, .c [.nils, .nils, .nils]⟩, ⟨.row, 47, 1, 1, .w [1]⟩, ⟨.blk, 69, 1, 2, .c [.wh 6, .wh 7]⟩, ⟨(.ro true), 47, 1, r70.2.1, .w r70.1⟩, ⟨(.ro true), 47, 1, r70_1.2.1, .w r70_1.1⟩]⟩) (by kernel_rfl) (allP_cons.2 ⟨g30, (allP_cons.2 ⟨g31, allP_nil⟩)⟩) ?_
                          obtain ⟨g32, h⟩ := gd_some h
                          refine W_reg hT ftL_nil [] [] [0, 1, 2, 6, 8, 13, 46, 47] [0, 1, 2, 3, 4, 5, 6, 7] (s' := ⟨[(0, .c (.wh 0)), (1, .c (.wh 1)), (2, .c (.wh 2)), (6, .c (.pt 3 0)), (8, .c (.wh 4)), (13, .c (.pt 5 0)), (46, .g 2 (.c [.wh 0, .wh 1])), (47, .c (.s (.k .i64 2)))], [], [⟨(.ro false), 47, 1, l0.length, .w l0⟩, ⟨(.ro false), 47, 1, l1.length, .w l1⟩, ⟨(.ro false), 47, 1, l2.length, .w l2⟩, ⟨.blk, 25, 1, 3, .c [.nils, .nils, .nils]⟩, ⟨.row, 47, 1, 1, .w [1]⟩, ⟨.blk, 69, 1, 2, .c [.wh 6, .wh 7]⟩, ⟨(.ro true), 47, 1, r70.2.1, .w r70.1⟩, ⟨(.ro true), 47, 1, r70_1.2.1, .w r70_1.1⟩]⟩) (by kernel_rfl) (allP_cons.2 ⟨g32, allP_nil⟩) ?_
                          refine WL_succ ?_
                          refine W_seq ?_
                          refine W_reg hT ftL_nil [] [] [0, 1, 2, 6, 8, 13, 46, 47, 48] [0, 1, 2, 3, 4, 5, 6, 7] (s' := ⟨[(0, .c (.wh 0)), (1, .c (.wh 1)), (2, .c (.wh 2)), (6, .c (.pt 3 0)), (8, .c (.wh 4)), (13, .c (.pt 5 0)), (46, .g 2 (.c [.wh 0, .wh 1])), (47, .c (.s (.k .i64 2))), (48, .c (.s (.b false)))], [], [⟨(.ro false), 47, 1, l0.length, .w l0⟩, ⟨(.ro false), 47, 1, l1.length, .w l1⟩, ⟨(.ro false), 47, 1, l2.length, .w l2⟩, ⟨.blk, 25, 1, 3, .c [.nils, .nils, .nils]⟩, ⟨.row, 47, 1, 1, .w [1]⟩, ⟨.blk, 69, 1, 2, .c [.wh 6, .wh 7]⟩, ⟨(.ro true), 47, 1, r70.2.1, .w r70.1⟩, ⟨(.ro true), 47, 1, r70_1.2.1, .w r70_1.1⟩]⟩) (by kernel_rfl) allP_nil ?_
                          refine W_seq ?_
                          refine W_cond (b := false) (by kernel_rfl) (fun hb => by cases hb) (fun _ => ?_)
                          refine W_co [] [0, 1, 2, 6, 13] [0, 1, 2, 3, 5, 6, 7] (s' := ⟨[(0, .c (.wh 0)), (1, .c (.wh 1)), (2, .c (.wh 2)), (6, .c (.pt 3 0)), (13, .c (.pt 4 0))], [], [⟨(.ro false), 47, 1, l0.length, .w l0⟩, ⟨(.ro false), 47, 1, l1.length, .w l1⟩, ⟨(.ro false), 47, 1, l2.length, .w l2⟩, ⟨.blk, 25, 1, 3, .c [.nils, .nils, .nils]⟩, ⟨.blk, 69, 1, 2, .c [.wh 5, .wh 6]⟩, ⟨(.ro true), 47, 1, r70.2.1, .w r70.1⟩, ⟨(.ro true), 47, 1, r70_1.2.1, .w r70_1.1⟩]⟩) (by kernel_rfl) (W_exit ?_)
                          refine W_seq ?_
                          obtain ⟨g33, h⟩ := gd_some h
                          obtain ⟨g34, h⟩ := gd_some h
                          obtain ⟨g35, h⟩ := gd_some h
                          obtain ⟨g36, h⟩ := gd_some h
                          obtain ⟨r86, g37, h⟩ := bind_some' h
                          refine W_reg hT (ftL_cons (k := 4) (f := 35) (F := (pMul_ct n r86)) (pMul_ok n r86) (fun _ _ => True.intro) ftL_nil) [] [] [0, 1, 2, 6, 19, 20] [0, 1, 2, 3, 7] (s' := ⟨[(0, .c (.wh 0)), (1, .c (.wh 1)), (2, .c (.wh 2)), (6, .c (.pt 3 0)), (19, .c (.wh 4)), (20, .c (.s (.er 33 .i64 r86.2.2)))], [], [⟨(.ro false), 47, 1, l0.length, .w l0⟩, ⟨(.ro false), 47, 1, l1.length, .w l1⟩, ⟨(.ro false), 47, 1, l2.length, .w l2⟩, ⟨.blk, 25, 1, 3, .c [.nils, .nils, .nils]⟩, ⟨(.ro true), 47, 1, r86.2.1, .w r86.1⟩]⟩) (by kernel_rfl) (allP_cons.2 ⟨g33, (allP_cons.2 ⟨g34, (allP_cons.2 ⟨g35, (allP_cons.2 ⟨g36, (allP_cons.2 ⟨g37, allP_nil⟩)⟩)⟩)⟩)⟩) ?_
                          refine W_seq ?_
                          refine W_seq ?_
                          refine W_reg hT ftL_nil [] [] [0, 1, 2, 6, 19, 20, 90] [0, 1, 2, 3, 4] (s' := ⟨[(0, .c (.wh 0)), (1, .c (.wh 1)), (2, .c (.wh 2)), (6, .c (.pt 3 0)), (19, .c (.wh 4)), (20, .c (.s (.er 33 .i64 r86.2.2))), (90, .c (.s (.b (!((r86.2.2).isNone)))))], [], [⟨(.ro false), 47, 1, l0.length, .w l0⟩, ⟨(.ro false), 47, 1, l1.length, .w l1⟩, ⟨(.ro false), 47, 1, l2.length, .w l2⟩, ⟨.blk, 25, 1, 3, .c [.nils, .nils, .nils]⟩, ⟨(.ro true), 47, 1, r86.2.1, .w r86.1⟩]⟩) (by kernel_rfl) allP_nil ?_
                          refine W_cond (b := (!((r86.2.2).isNone))) (by kernel_rfl) (fun g46 => ?_) (fun g46 => ?_)
                          · replace h := bif_t h g46
                            refine W_seq ?_
                            refine W_reg hT ftL_nil [] [] [6, 7] [3] (s' := ⟨[(6, .c (.pt 0 0)), (7, .c (.s (.er 33 .i64 r86.2.2)))], [], [⟨.blk, 25, 1, 3, .c [.nils, .nils, .nils]⟩]⟩) (by kernel_rfl) allP_nil ?_
                            refine W_co [.nlc 0 0 47 1 (.w []) (some true), .nlc 0 1 47 1 (.w []) (some true), .nlc 0 2 47 1 (.w []) none] [6, 7] [0, 1, 2, 3] (s' := (kPair_R ([], 0, [], 0, [], r86.2.2))) (by kernel_rfl) (W_ret ?_)
                            exact ⟨.inl rfl, by cases h; rfl⟩
                          · replace h := bif_f h g46
                            refine W_co [] [0, 1, 2, 6, 19] [0, 1, 2, 3, 4] (s' := ⟨[(0, .c (.wh 0)), (1, .c (.wh 1)), (2, .c (.wh 2)), (6, .c (.pt 3 0)), (19, .c (.wh 4))], [], [⟨(.ro false), 47, 1, l0.length, .w l0⟩, ⟨(.ro false), 47, 1, l1.length, .w l1⟩, ⟨(.ro false), 47, 1, l2.length, .w l2⟩, ⟨.blk, 25, 1, 3, .c [.nils, .nils, .nils]⟩, ⟨(.ro true), 47, 1, r86.2.1, .w r86.1⟩]⟩) (by kernel_rfl) (W_skip ?_)
                            refine W_seq ?_
                            obtain ⟨r96, g38, h⟩ := bind_some' h
                            refine W_reg hT (ftL_cons (k := 2) (f := 36) (F := (pInv_ct n r96)) (pInv_ok n r96) (fun _ _ => True.intro) ftL_nil) [] [] [0, 1, 2, 6, 20, 21] [0, 1, 2, 3, 5] (s' := ⟨[(0, .c (.wh 0)), (1, .c (.wh 1)), (2, .c (.wh 2)), (6, .c (.pt 3 0)), (20, .c (.s (.er 33 .i64 r96.2))), (21, .c (.wh 4))], [], [⟨(.ro false), 47, 1, l0.length, .w l0⟩, ⟨(.ro false), 47, 1, l1.length, .w l1⟩, ⟨(.ro false), 47, 1, l2.length, .w l2⟩, ⟨.blk, 25, 1, 3, .c [.nils, .nils, .nils]⟩, ⟨.row, 47, 1, r96.1.length, .w r96.1⟩]⟩) (by kernel_rfl) (allP_cons.2 ⟨g38, allP_nil⟩) ?_
                            refine W_seq ?_
                            refine W_seq ?_
                            refine W_reg hT ftL_nil [] [] [0, 1, 2, 6, 21, 100] [0, 1, 2, 3, 4] (s' := ⟨[(0, .c (.wh 0)), (1, .c (.wh 1)), (2, .c (.wh 2)), (6, .c (.pt 3 0)), (21, .c (.wh 4)), (100, .c (.s (.b (!((r96.2).isNone)))))], [], [⟨(.ro false), 47, 1, l0.length, .w l0⟩, ⟨(.ro false), 47, 1, l1.length, .w l1⟩, ⟨(.ro false), 47, 1, l2.length, .w l2⟩, ⟨.blk, 25, 1, 3, .c [.nils, .nils, .nils]⟩, ⟨.row, 47, 1, r96.1.length, .w r96.1⟩]⟩) (by kernel_rfl) allP_nil ?_
                            refine W_cond (b := (!((r96.2).isNone))) (by kernel_rfl) (fun g45 => ?_) (fun g45 => ?_)
                            · replace h := bif_t h g45
                              refine W_seq ?_
                              refine W_reg hT ftL_nil [] [] [6, 7] [3] (s' := ⟨[(6, .c (.pt 0 0)), (7, .c (.s (.er 33 .i64 (some 13))))], [], [⟨.blk, 25, 1, 3, .c [.nils, .nils, .nils]⟩]⟩) (by kernel_rfl) allP_nil ?_
                              refine W_co [.nlc 0 0 47 1 (.w []) (some true), .nlc 0 1 47 1 (.w []) (some true), .nlc 0 2 47 1 (.w []) none] [6, 7] [0, 1, 2, 3] (s' := (kPair_R ([], 0, [], 0, [], (some 13)))) (by kernel_rfl) (W_ret ?_)
                              exact ⟨.inl rfl, by cases h; rfl⟩
                            · replace h := bif_f h g45
                              refine W_co [] [0, 1, 2, 6, 21] [0, 1, 2, 3, 4] (s' := ⟨[(0, .c (.wh 0)), (1, .c (.wh 1)), (2, .c (.wh 2)), (6, .c (.pt 3 0)), (21, .c (.wh 4))], [], [⟨(.ro false), 47, 1, l0.length, .w l0⟩, ⟨(.ro false), 47, 1, l1.length, .w l1⟩, ⟨(.ro false), 47, 1, l2.length, .w l2⟩, ⟨.blk, 25, 1, 3, .c [.nils, .nils, .nils]⟩, ⟨.row, 47, 1, r96.1.length, .w r96.1⟩]⟩) (by kernel_rfl) (W_skip ?_)
                              refine W_seq ?_
                              obtain ⟨r106, g39, h⟩ := bind_some' h
                              refine W_reg hT (ftL_cons (k := 2) (f := 35) (F := (pMul_ct n r106)) (pMul_ok n r106) (fun _ _ => True.intro) ftL_nil) [] [] [2, 6, 20, 21, 22] [2, 3, 4, 5] (s' := ⟨[(2, .c (.wh 0)), (6, .c (.pt 1 0)), (20, .c (.s (.er 33 .i64 r106.2.2))), (21, .c (.wh 2)), (22, .c (.wh 3))], [], [⟨(.ro false), 47, 1, l2.length, .w l2⟩, ⟨.blk, 25, 1, 3, .c [.nils, .nils, .nils]⟩, ⟨.row, 47, 1, r96.1.length, .w r96.1⟩, ⟨(.ro true), 47, 1, r106.2.1, .w r106.1⟩]⟩) (by kernel_rfl) (allP_cons.2 ⟨g39, allP_nil⟩) ?_
                              refine W_seq ?_
                              refine W_seq ?_
                              refine W_reg hT ftL_nil [] [] [2, 6, 20, 21, 22, 110] [0, 1, 2, 3] (s' := ⟨[(2, .c (.wh 0)), (6, .c (.pt 1 0)), (20, .c (.s (.er 33 .i64 r106.2.2))), (21, .c (.wh 2)), (22, .c (.wh 3)), (110, .c (.s (.b (!((r106.2.2).isNone)))))], [], [⟨(.ro false), 47, 1, l2.length, .w l2⟩, ⟨.blk, 25, 1, 3, .c [.nils, .nils, .nils]⟩, ⟨.row, 47, 1, r96.1.length, .w r96.1⟩, ⟨(.ro true), 47, 1, r106.2.1, .w r106.1⟩]⟩) (by kernel_rfl) allP_nil ?_
                              refine W_cond (b := (!((r106.2.2).isNone))) (by kernel_rfl) (fun g44 => ?_) (fun g44 => ?_)
                              · replace h := bif_t h g44
                                refine W_seq ?_
                                refine W_reg hT ftL_nil [] [] [6, 7] [1] (s' := ⟨[(6, .c (.pt 0 0)), (7, .c (.s (.er 33 .i64 r106.2.2)))], [], [⟨.blk, 25, 1, 3, .c [.nils, .nils, .nils]⟩]⟩) (by kernel_rfl) allP_nil ?_
                                refine W_co [.nlc 0 0 47 1 (.w []) (some true), .nlc 0 1 47 1 (.w []) (some true), .nlc 0 2 47 1 (.w []) none] [6, 7] [0, 1, 2, 3] (s' := (kPair_R ([], 0, [], 0, [], r106.2.2))) (by kernel_rfl) (W_ret ?_)
                                exact ⟨.inl rfl, by cases h; rfl⟩
                              · replace h := bif_f h g44
                                refine W_co [] [2, 6, 21, 22] [0, 1, 2, 3] (s' := ⟨[(2, .c (.wh 0)), (6, .c (.pt 1 0)), (21, .c (.wh 2)), (22, .c (.wh 3))], [], [⟨(.ro false), 47, 1, l2.length, .w l2⟩, ⟨.blk, 25, 1, 3, .c [.nils, .nils, .nils]⟩, ⟨.row, 47, 1, r96.1.length, .w r96.1⟩, ⟨(.ro true), 47, 1, r106.2.1, .w r106.1⟩]⟩) (by kernel_rfl) (W_skip ?_)
                                refine W_seq ?_
                                obtain ⟨r115, g40, h⟩ := bind_some' h
                                refine W_reg hT (ftL_cons (k := 1) (f := 33) (F := (pAdd_ct n r115)) (pAdd_ok n r115) (fun _ _ => True.intro) ftL_nil) [] [] [6, 20, 21, 22, 23] [1, 2, 3, 4] (s' := ⟨[(6, .c (.pt 0 0)), (20, .c (.s (.er 33 .i64 r115.2.2))), (21, .c (.wh 1)), (22, .c (.wh 2)), (23, .c (.wh 3))], [], [⟨.blk, 25, 1, 3, .c [.nils, .nils, .nils]⟩, ⟨.row, 47, 1, r96.1.length, .w r96.1⟩, ⟨(.ro true), 47, 1, r106.2.1, .w r106.1⟩, ⟨(.ro true), 47, 1, r115.2.1, .w r115.1⟩]⟩) (by kernel_rfl) (allP_cons.2 ⟨g40, allP_nil⟩) ?_
                                refine W_seq ?_
                                refine W_seq ?_
                                refine W_reg hT ftL_nil [] [] [6, 20, 21, 22, 23, 119] [0, 1, 2, 3] (s' := ⟨[(6, .c (.pt 0 0)), (20, .c (.s (.er 33 .i64 r115.2.2))), (21, .c (.wh 1)), (22, .c (.wh 2)), (23, .c (.wh 3)), (119, .c (.s (.b (!((r115.2.2).isNone)))))], [], [⟨.blk, 25, 1, 3, .c [.nils, .nils, .nils]⟩, ⟨.row, 47, 1, r96.1.length, .w r96.1⟩, ⟨(.ro true), 47, 1, r106.2.1, .w r106.1⟩, ⟨(.ro true), 47, 1, r115.2.1, .w r115.1⟩]⟩) (by kernel_rfl) allP_nil ?_
                                refine W_cond (b := (!((r115.2.2).isNone))) (by kernel_rfl) (fun g43 => ?_) (fun g43 => ?_)
                                · replace h := bif_t h g43
                                  refine W_seq ?_
                                  refine W_reg hT ftL_nil [] [] [6, 7] [0] (s' := ⟨[(6, .c (.pt 0 0)), (7, .c (.s (.er 33 .i64 r115.2.2)))], [], [⟨.blk, 25, 1, 3, .c [.nils, .nils, .nils]⟩]⟩) (by kernel_rfl) allP_nil ?_
                                  refine W_co [.nlc 0 0 47 1 (.w []) (some true), .nlc 0 1 47 1 (.w []) (some true), .nlc 0 2 47 1 (.w []) none] [6, 7] [0, 1, 2, 3] (s' := (kPair_R ([], 0, [], 0, [], r115.2.2))) (by kernel_rfl) (W_ret ?_)
                                  exact ⟨.inl rfl, by cases h; rfl⟩
                                · replace h := bif_f h g43
                                  refine W_co [] [6, 21, 22, 23] [0, 1, 2, 3] (s' := ⟨[(6, .c (.pt 0 0)), (21, .c (.wh 1)), (22, .c (.wh 2)), (23, .c (.wh 3))], [], [⟨.blk, 25, 1, 3, .c [.nils, .nils, .nils]⟩, ⟨.row, 47, 1, r96.1.length, .w r96.1⟩, ⟨(.ro true), 47, 1, r106.2.1, .w r106.1⟩, ⟨(.ro true), 47, 1, r115.2.1, .w r115.1⟩]⟩) (by kernel_rfl) (W_skip ?_)
                                  refine W_seq ?_
                                  refine W_reg hT ftL_nil [] [] [6, 24] [0, 4, 2, 3, 1] (s' := ⟨[(6, .c (.pt 0 0)), (24, .c (.pt 1 0))], [], [⟨.blk, 25, 1, 3, .c [.nils, .nils, .nils]⟩, ⟨.blk, 25, 1, 3, .c [.wh 2, .wh 3, .wh 4]⟩, ⟨(.ro true), 47, 1, r106.2.1, .w r106.1⟩, ⟨(.ro true), 47, 1, r115.2.1, .w r115.1⟩, ⟨.row, 47, 1, r96.1.length, .w r96.1⟩]⟩) (by kernel_rfl) allP_nil ?_
                                  refine W_seq ?_
                                  refine W_seq ?_
                                  obtain ⟨r127, g41, h⟩ := bind_some' h
                                  refine W_reg hT (ftL_cons (k := 1) (f := 17) (F := (ksecret_ct n r127)) (ksecret_ok n r127) (fun _ _ => True.intro) ftL_nil) [] [] [6, 24, 25] [0, 1, 2, 3, 4] (s' := ⟨[(6, .c (.pt 0 0)), (24, .c (.pt 1 0)), (25, .c (.s (.er 33 .i64 r127)))], [], [⟨.blk, 25, 1, 3, .c [.nils, .nils, .nils]⟩, ⟨.blk, 25, 1, 3, .c [.wh 2, .wh 3, .wh 4]⟩, ⟨(.ro true), 47, 1, r106.2.1, .w r106.1⟩, ⟨(.ro true), 47, 1, r115.2.1, .w r115.1⟩, ⟨.row, 47, 1, r96.1.length, .w r96.1⟩]⟩) (by kernel_rfl) (allP_cons.2 ⟨g41, allP_nil⟩) ?_
                                  refine W_seq ?_
                                  refine W_reg hT ftL_nil [] [] [6, 24, 25, 129] [0, 1, 2, 3, 4] (s' := ⟨[(6, .c (.pt 0 0)), (24, .c (.pt 1 0)), (25, .c (.s (.er 33 .i64 r127))), (129, .c (.s (.b (!((r127).isNone)))))], [], [⟨.blk, 25, 1, 3, .c [.nils, .nils, .nils]⟩, ⟨.blk, 25, 1, 3, .c [.wh 2, .wh 3, .wh 4]⟩, ⟨(.ro true), 47, 1, r106.2.1, .w r106.1⟩, ⟨(.ro true), 47, 1, r115.2.1, .w r115.1⟩, ⟨.row, 47, 1, r96.1.length, .w r96.1⟩]⟩) (by kernel_rfl) allP_nil ?_
                                  refine W_cond (b := (!((r127).isNone))) (by kernel_rfl) (fun g42 => ?_) (fun g42 => ?_)
                                  · replace h := bif_t h g42
                                    refine W_seq ?_
                                    refine W_reg hT ftL_nil [] [] [6, 7] [0] (s' := ⟨[(6, .c (.pt 0 0)), (7, .c (.s (.er 33 .i64 r127)))], [], [⟨.blk, 25, 1, 3, .c [.nils, .nils, .nils]⟩]⟩) (by kernel_rfl) allP_nil ?_
                                    refine W_co [.nlc 0 0 47 1 (.w []) (some true), .nlc 0 1 47 1 (.w []) (some true), .nlc 0 2 47 1 (.w []) none] [6, 7] [0, 1, 2, 3] (s' := (kPair_R ([], 0, [], 0, [], r127))) (by kernel_rfl) (W_ret ?_)
                                    exact ⟨.inl rfl, by cases h; rfl⟩
                                  · replace h := bif_f h g42
                                    refine W_co [] [6, 24] [0, 1, 2, 3, 4] (s' := ⟨[(6, .c (.pt 0 0)), (24, .c (.pt 1 0))], [], [⟨.blk, 25, 1, 3, .c [.nils, .nils, .nils]⟩, ⟨.blk, 25, 1, 3, .c [.wh 2, .wh 3, .wh 4]⟩, ⟨(.ro true), 47, 1, r106.2.1, .w r106.1⟩, ⟨(.ro true), 47, 1, r115.2.1, .w r115.1⟩, ⟨.row, 47, 1, r96.1.length, .w r96.1⟩]⟩) (by kernel_rfl) (W_skip ?_)
                                    refine W_seq ?_
                                    refine W_reg hT ftL_nil [] [] [6, 7] [0, 2, 3, 4] (s' := ⟨[(6, .c (.pt 0 0)), (7, .c (.s (.v .nilIface)))], [], [⟨.blk, 25, 1, 3, .c [.wh 1, .wh 2, .wh 3]⟩, ⟨(.ro true), 47, 1, r106.2.1, .w r106.1⟩, ⟨(.ro true), 47, 1, r115.2.1, .w r115.1⟩, ⟨.row, 47, 1, r96.1.length, .w r96.1⟩]⟩) (by kernel_rfl) allP_nil ?_
                                    refine W_co [.er 7 33 .i64] [6, 7] [0, 1, 2, 3] (s' := (kPair_R (r106.1, r106.2.1, r115.1, r115.2.1, r96.1, none))) (by kernel_rfl) (W_ret ?_)
                                    exact ⟨.inl rfl, by cases h; rfl⟩
  · rintro e s' ⟨he, rfl⟩
    refine ⟨he, fun a' w' hr => ?_⟩
    exact retS_ok tabO_rb hr (rs := [.cell 6 25, .tmp 7]) rfl (objs := [1, 2, 3]) (by kernel_rfl)
def kup_R (r : Bool) : S := ⟨[(0, .c (.s (.b r)))], [], []⟩
def kup_ct (n : Nat) (r : Bool) : Ct := fun args H => match args with
  | [] => some ([kup n = some r], shA H.length (.c (.s (.b r))), shH H.length [])
  | _ => none
theorem kup_ok (n : Nat) (r : Bool) : FnOk Try.prog Tr 5 (kup_ct n r) := by
  refine ⟨fun args H g av objs hF hg ρ w vals hG hp ha => ?_, _, Try.func5, by kernel_rfl, by kernel_rfl⟩
  obtain rfl : args = [] := by
    unfold kup_ct at hF; split at hF
    · exact rfl
    · cases hF
  simp only [kup_ct, Option.some.injEq, Prod.mk.injEq] at hF
  obtain ⟨rfl, rfl, rfl⟩ := hF
  obtain rfl := F2.inv0 ha
  have hI : ∀ w', Kp (noB (fun _ => undef)) w w' → Tr w' := fun _ hk => Tr.keep hk.below hG
  have h : kup n = some r := hg
  have hR0 := rel0 (gv := (fun _ => undef)) (n := 23) (w := w) (args := []) (H := []) (gl := []) (hpL (ps := []) F2.nil) (allRo_ok rfl) F2.nil GlR.nil (by simp)
  clear ha hp hg 
  refine calls_W Try.func5 rfl rfl hR0 (Q := fun e s => (e = .ret ∨ e = .normal) ∧ s = kup_R r) ?_ ?_
  · clear hR0
    unfold kup at h
    have hT := tabO_rb
    refine W_seq ?_
    refine W_reg hT ftL_nil [] [] [] [] (s' := ⟨[], [], []⟩) (by kernel_rfl) allP_nil ?_
    refine W_seq ?_
    obtain ⟨r7, g1, h⟩ := bind_some' h
    refine W_reg hT (ftL_cons (k := 3) (f := 15) (F := (kCheck_ct n r7)) (kCheck_ok n r7) (fun _ _ => True.intro) ftL_nil) [] [] [1] [] (s' := ⟨[(1, .c (.s (.er 33 .i64 r7)))], [], []⟩) (by kernel_rfl) (allP_cons.2 ⟨g1, allP_nil⟩) ?_
    refine W_seq ?_
    obtain ⟨r12, g2, h⟩ := bind_some' h
    refine W_reg hT (ftL_cons (k := 3) (f := 16) (F := (kPair_ct n r12)) (kPair_ok n r12) (fun _ _ => True.intro) ftL_nil) [] [] [1, 3] [] (s' := ⟨[(1, .c (.s (.er 33 .i64 r7))), (3, .c (.s (.er 33 .i64 r12.2.2.2.2.2)))], [], []⟩) (by kernel_rfl) (allP_cons.2 ⟨g2, allP_nil⟩) ?_
    refine W_seq ?_
    obtain ⟨g3, h⟩ := gd_some h
    rcases Bool.eq_false_or_eq_true (r7 == (some 1)) with g4 | g4
    · replace h := bif_t h g4
      obtain ⟨g5, h⟩ := gd_some h
      refine W_reg hT ftL_nil [(3, true)] [] [0] [] (s' := ⟨[(0, .c (.s (.b (r12.2.2.2.2.2 == (some 1)))))], [], []⟩) (by kernel_rfl) (allP_cons.2 ⟨g3, (allP_cons.2 ⟨g4, (allP_cons.2 ⟨g5, allP_nil⟩)⟩)⟩) ?_
      refine W_co [] [0] [] (s' := (kup_R (r12.2.2.2.2.2 == (some 1)))) (by kernel_rfl) (W_ret ?_)
      exact ⟨.inl rfl, by cases h; rfl⟩
    · replace h := bif_f h g4
      refine W_reg hT ftL_nil [(3, false)] [] [0] [] (s' := ⟨[(0, .c (.s (.b false)))], [], []⟩) (by kernel_rfl) (allP_cons.2 ⟨g3, (allP_cons.2 ⟨g4, allP_nil⟩)⟩) ?_
      refine W_co [] [0] [] (s' := (kup_R false)) (by kernel_rfl) (W_ret ?_)
      exact ⟨.inl rfl, by cases h; rfl⟩
  · rintro e s' ⟨he, rfl⟩
    refine ⟨he, fun a' w' hr => ?_⟩
    exact retS_ok tabO_rb hr (rs := [.tmp 0]) rfl (objs := []) (by kernel_rfl)
end Go.Proofs.Ythichmclbiggmaa
end
section
set_option linter.unusedVariables false
set_option linter.unusedSimpArgs false
namespace Go.Proofs.Ythichmclbiggmaa
open Go.RowKit Go.Ch Go.Sx
def tabL_rc : List (TypeId × Ti) := [(5, ⟨.int .u8, 1, 1, true, some [.int .u8]⟩),
  (23, ⟨.sl 47, 1, 24, false, some [.nils]⟩),
  (25, ⟨.st [(23, 0), (23, 1), (23, 2)], 3, 72, false, some [.nils, .nils, .nils]⟩),
  (26, ⟨.sl 5, 1, 24, false, some [.nils]⟩),
  (30, ⟨.ifc, 1, 16, true, some [.ifc]⟩),
  (33, ⟨.int .i64, 1, 8, true, some [.int .i64]⟩),
  (47, ⟨.int .u32, 1, 4, true, some [.int .u32]⟩)]
def tab_rc : Tab := fun t => (tabL_rc).lookup t
theorem tabE_rc : (tabL_rc.map fun p => tiOf Try.prog p.1) = tabL_rc.map fun p => some p.2 := by kernel_rfl
theorem tabO_rc : TabOk Try.prog tab_rc := tab_of tabE_rc
def pRead_l1 (n : Nat) (l0_4 : List UInt8) (m0_4 : Nat) : Nat → List UInt32 → Int → Option (List UInt32 × Nat × Option Int)
  | 0, _, _ => none
  | fu_l1 + 1, w4_1, i30_1 =>
    bif (decide (i30_1 < ((m0_4 : Nat) : Int))) then
      gd (0 ≤ i30_1) <|
      gd (i30_1 < ((m0_4 : Nat) : Int)) <|
      gd (okI .i64 (((m0_4 : Nat) : Int) - 1)) <|
      gd (okI .i64 ((((m0_4 : Nat) : Int) - 1) - i30_1)) <|
      gd ((4 : Int) ≠ 0) <|
      gd (okI .i64 (Int.tdiv ((((m0_4 : Nat) : Int) - 1) - i30_1) 4)) <|
      gd (0 ≤ (Int.tdiv ((((m0_4 : Nat) : Int) - 1) - i30_1) 4)) <|
      gd ((Int.tdiv ((((m0_4 : Nat) : Int) - 1) - i30_1) 4) < (((Int.tdiv (((m0_4 : Nat) : Int) + 3) 4).toNat : Nat) : Int)) <|
      gd ((4 : Int) ≠ 0) <|
      gd (okI .i64 (8 * (Int.tmod ((((m0_4 : Nat) : Int) - 1) - i30_1) 4))) <|
      gd (0 ≤ (8 * (Int.tmod ((((m0_4 : Nat) : Int) - 1) - i30_1) 4))) <|
      gd (0 ≤ (Int.tdiv ((((m0_4 : Nat) : Int) - 1) - i30_1) 4)) <|
      gd ((Int.tdiv ((((m0_4 : Nat) : Int) - 1) - i30_1) 4) < (((Int.tdiv (((m0_4 : Nat) : Int) + 3) 4).toNat : Nat) : Int)) <|
      gd (okI .i64 (i30_1 + 1)) <|
      (pRead_l1 n l0_4 m0_4 fu_l1) (w4_1.set ((Int.tdiv ((((m0_4 : Nat) : Int) - 1) - i30_1) 4).toNat) ((w4_1.getD ((Int.tdiv ((((m0_4 : Nat) : Int) - 1) - i30_1) 4).toNat) 0) ||| (shl32 ((l0_4.getD i30_1.toNat 0).toUInt32) (8 * (Int.tmod ((((m0_4 : Nat) : Int) - 1) - i30_1) 4))))) (i30_1 + 1)
    else
      some (w4_1, (Int.tdiv (((m0_4 : Nat) : Int) + 3) 4).toNat, none)
def pRead_j1 (n : Nat) (l0_4 : List UInt8) (m0_4 : Nat) : Option (List UInt32 × Nat × Option Int) :=
  bif (decide ((256 : Int) < ((m0_4 : Nat) : Int))) then
    some ([], 0, (some 4))
  else
    gd (okI .i64 (((m0_4 : Nat) : Int) + 3)) <|
    gd ((4 : Int) ≠ 0) <|
    gd (okI .i64 (Int.tdiv (((m0_4 : Nat) : Int) + 3) 4)) <|
    gd (0 ≤ (Int.tdiv (((m0_4 : Nat) : Int) + 3) 4)) <|
    gd ((Int.tdiv (((m0_4 : Nat) : Int) + 3) 4) = (Int.tdiv (((m0_4 : Nat) : Int) + 3) 4)) <|
    gd (rmB ((Int.tdiv (((m0_4 : Nat) : Int) + 3) 4).toNat) 4) <|
    pRead_l1 n l0_4 m0_4 n (List.replicate ((Int.tdiv (((m0_4 : Nat) : Int) + 3) 4).toNat) 0) 0
def pRead_l2 (n : Nat) : Nat → List UInt8 → Nat → Option (List UInt32 × Nat × Option Int)
  | 0, _, _ => none
  | fu_l2 + 1, l0_5, m0_5 =>
    bif (decide ((0 : Int) < ((m0_5 : Nat) : Int))) then
      gd (0 ≤ (0 : Int)) <|
      gd ((0 : Int) < ((m0_5 : Nat) : Int)) <|
      bif ((l0_5.getD 0 0) == 0) then
        gd (0 ≤ (1 : Int)) <|
        gd ((1 : Int) ≤ ((m0_5 : Nat) : Int)) <|
        (pRead_l2 n fu_l2) ((l0_5.drop 1).take (m0_5 - 1)) (m0_5 - 1)
      else
        pRead_j1 n l0_5 m0_5
    else
      pRead_j1 n l0_5 m0_5
def pRead (n : Nat) (a0 : List UInt8) : Option (List UInt32 × Nat × Option Int) :=
  pRead_l2 n n a0 a0.length
def kpower (n : Nat) (a0 : List UInt8) (a1 : List UInt32) (a2 : List UInt32) : Option (List UInt8 × Nat × Bool) :=
  (ksize n a2).bind fun r14 =>
  (pRead n a0).bind fun r17 =>
  bif (!((r17.2.2).isNone)) then
    some ([], 0, false)
  else
    bif (((a0.length : Nat) : Int) != r14) then
      some ([], 0, false)
    else
      (pCmp n r17.1 a2).bind fun r31 =>
      bif (decide ((0 : Int) ≤ r31)) then
        some ([], 0, false)
      else
        (pExp n r17.1 a1 a2).bind fun r38 =>
        bif (!((r38.2).isNone)) then
          some ([], 0, false)
        else
          (pWrite n r38.1 r14).bind fun r46 =>
          some (r46.1, r46.2.1, (r46.2.2).isNone)
def kIndex_l1 (n : Nat) (a0 : List UInt8) (a1 : UInt8) : Nat → Int → Option (Int)
  | 0, _ => none
  | fu_l1 + 1, i8_2 =>
    bif (decide (i8_2 < ((a0.length : Nat) : Int))) then
      gd (0 ≤ i8_2) <|
      gd (i8_2 < ((a0.length : Nat) : Int)) <|
      bif (a1 == (a0.getD i8_2.toNat 0)) then
        some i8_2
      else
        gd (okI .i64 (i8_2 + 1)) <|
        (kIndex_l1 n a0 a1 fu_l1) (i8_2 + 1)
    else
      some (-1)
def kIndex (n : Nat) (a0 : List UInt8) (a1 : UInt8) : Option (Int) :=
  kIndex_l1 n a0 a1 n 0
def klight (n : Nat) (a0_0 : List UInt32) (a0_1 : List UInt32) (a0_2 : List UInt32) : Option (Bool) :=
  bif (decide (((a0_0.length : Nat) : Int) ≤ (70 : Int))) then
    bif (decide (((a0_1.length : Nat) : Int) ≤ (70 : Int))) then
      some (decide (((a0_2.length : Nat) : Int) ≤ (70 : Int)))
    else
      some false
  else
    some false
def pRead_l1_E (l0_4 : List UInt8) (m0_4 : Nat) (w4_1 : List UInt32) (i30_1 : Int) : S := ⟨[(0, .c (.wh 0)), (4, .c (.wh 1)), (28, .c (.wh 0)), (29, .c (.s (.k .i64 ((m0_4 : Nat) : Int)))), (30, .c (.s (.k .i64 i30_1)))], [], [⟨(.ro false), 5, 1, m0_4, .b l0_4⟩, ⟨.row, 47, 1, (Int.tdiv (((m0_4 : Nat) : Int) + 3) 4).toNat, .w w4_1⟩]⟩
def pRead_l1_P (n : Nat) (l0_4 : List UInt8) (m0_4 : Nat) (r : List UInt32 × Nat × Option Int) (fu : Nat) : S → Prop := fun s => ∃ (w4_1 : List UInt32), ∃ (i30_1 : Int), s = pRead_l1_E l0_4 m0_4 w4_1 i30_1 ∧ pRead_l1 n l0_4 m0_4 fu w4_1 i30_1 = some r
theorem pRead_l1_M {n : Nat} {l0_4 : List UInt8} {m0_4 : Nat} {w4_1 : List UInt32} {i30_1 : Int} {r : List UInt32 × Nat × Option Int} {fu : Nat} (h : pRead_l1 n l0_4 m0_4 fu w4_1 i30_1 = some r) : pRead_l1_P n l0_4 m0_4 r fu (pRead_l1_E l0_4 m0_4 w4_1 i30_1) := ⟨w4_1, i30_1, rfl, h⟩
def pRead_j1_E (l0_4 : List UInt8) (m0_4 : Nat) : S := ⟨[(0, .c (.wh 0))], [], [⟨(.ro false), 5, 1, m0_4, .b l0_4⟩]⟩
def pRead_j1_P (n : Nat) (r : List UInt32 × Nat × Option Int) : S → Prop := fun s => ∃ (l0_4 : List UInt8), ∃ (m0_4 : Nat), s = pRead_j1_E l0_4 m0_4 ∧ pRead_j1 n l0_4 m0_4 = some r
theorem pRead_j1_M {n : Nat} {l0_4 : List UInt8} {m0_4 : Nat} {r : List UInt32 × Nat × Option Int} (h : pRead_j1 n l0_4 m0_4 = some r) : pRead_j1_P n r (pRead_j1_E l0_4 m0_4) := ⟨l0_4, m0_4, rfl, h⟩
def pRead_l2_E (l0_5 : List UInt8) (m0_5 : Nat) : S := ⟨[(0, .c (.wh 0))], [], [⟨(.ro false), 5, 1, m0_5, .b l0_5⟩]⟩
def pRead_l2_P (n : Nat) (r : List UInt32 × Nat × Option Int) (fu : Nat) : S → Prop := fun s => ∃ (l0_5 : List UInt8), ∃ (m0_5 : Nat), s = pRead_l2_E l0_5 m0_5 ∧ pRead_l2 n fu l0_5 m0_5 = some r
theorem pRead_l2_M {n : Nat} {l0_5 : List UInt8} {m0_5 : Nat} {r : List UInt32 × Nat × Option Int} {fu : Nat} (h : pRead_l2 n fu l0_5 m0_5 = some r) : pRead_l2_P n r fu (pRead_l2_E l0_5 m0_5) := ⟨l0_5, m0_5, rfl, h⟩
def pRead_R (r : List UInt32 × Nat × Option Int) : S := ⟨[(2, .c (.wh 0)), (3, .c (.s (.er 33 .i64 r.2.2)))], [], [⟨.row, 47, 1, r.2.1, .w r.1⟩]⟩
def pRead_ct (n : Nat) (r : List UInt32 × Nat × Option Int) : Ct := fun args H => match args with
  | [x0] => (match aB H x0 with | some l0 => some ([pRead n l0 = some r], shA H.length (.t [.c (.wh 0), .c (.s (.er 33 .i64 r.2.2))]), shH H.length [⟨.row, 47, 1, r.2.1, .w r.1⟩]) | none => none)
  | _ => none
theorem pRead_ok (n : Nat) (r : List UInt32 × Nat × Option Int) : FnOk Try.prog Tr 37 (pRead_ct n r) := by
  refine ⟨fun args H g av objs hF hg ρ w vals hG hp ha => ?_, _, Try.func37, by kernel_rfl, by kernel_rfl⟩
  obtain ⟨x0, rfl⟩ : ∃ x0, args = [x0] := by
    unfold pRead_ct at hF; split at hF
    · exact ⟨_, rfl⟩
    · cases hF
  cases e0 : aB H x0 with
  | none => simp only [pRead_ct, e0, reduceCtorEq] at hF
  | some l0 =>
  simp only [pRead_ct, e0, Option.some.injEq, Prod.mk.injEq] at hF
  obtain ⟨rfl, rfl, rfl⟩ := hF
  obtain ⟨v0, vals, rfl, k0, ha⟩ := F2.inv ha
  obtain rfl := F2.inv0 ha
  have hI : ∀ w', Kp (noB (fun _ => undef)) w w' → Tr w' := fun _ hk => Tr.keep hk.below hG
  have h : pRead n l0 = some r := hg
  obtain ⟨p0, s0, o0⟩ := aB_ok hp e0 (k0) 5
  have hR0 := rel0 (gv := (fun _ => undef)) (n := 55) (w := w) (args := [.c (.wh 0)]) (H := [⟨.ro false, 5, 1, l0.length, .b l0⟩]) (gl := []) (hpL (ps := [p0]) (F2.cons o0 F2.nil)) (allRo_ok rfl) (F2.cons s0 F2.nil) GlR.nil (by simp)
  clear ha hp hg k0 e0
  refine calls_W Try.func37 rfl rfl hR0 (Q := fun e s => (e = .ret ∨ e = .normal) ∧ s = pRead_R r) ?_ ?_
  · clear hR0
    unfold pRead at h
    have hT := tabO_rc
    refine W_seq ?_
    refine W_reg hT ftL_nil [] [] [0] [0] (s' := ⟨[(0, .c (.wh 0))], [], [⟨(.ro false), 5, 1, l0.length, .b l0⟩]⟩) (by kernel_rfl) allP_nil ?_
    refine W_join (pRead_j1_P n r) ?_ ?_
    · rintro _ ⟨l0_4, m0_4, rfl, h⟩
      unfold pRead_j1 at h
      refine W_seq ?_
      refine W_seq ?_
      refine W_reg hT ftL_nil [] [] [0, 21] [0] (s' := ⟨[(0, .c (.wh 0)), (21, .c (.s (.b (decide ((256 : Int) < ((m0_4 : Nat) : Int))))))], [], [⟨(.ro false), 5, 1, m0_4, .b l0_4⟩]⟩) (by kernel_rfl) allP_nil ?_
      refine W_cond (b := (decide ((256 : Int) < ((m0_4 : Nat) : Int)))) (by kernel_rfl) (fun g22 => ?_) (fun g22 => ?_)
      · replace h := bif_t h g22
        refine W_seq ?_
        refine W_reg hT ftL_nil [] [] [2, 3] [] (s' := ⟨[(2, .c (.nils)), (3, .c (.s (.er 33 .i64 (some 4))))], [], []⟩) (by kernel_rfl) allP_nil ?_
        refine W_co [.nil 2 47 1 (.w [])] [2, 3] [0] (s' := (pRead_R ([], 0, (some 4)))) (by kernel_rfl) (W_ret ?_)
        exact ⟨.inl rfl, by cases h; rfl⟩
      · replace h := bif_f h g22
        refine W_co [] [0] [0] (s' := ⟨[(0, .c (.wh 0))], [], [⟨(.ro false), 5, 1, m0_4, .b l0_4⟩]⟩) (by kernel_rfl) (W_skip ?_)
        refine W_seq ?_
        obtain ⟨g1, h⟩ := gd_some h
        obtain ⟨g2, h⟩ := gd_some h
        obtain ⟨g3, h⟩ := gd_some h
        obtain ⟨g4, h⟩ := gd_some h
        obtain ⟨g5, h⟩ := gd_some h
        obtain ⟨g6, h⟩ := gd_some h
        refine W_reg hT ftL_nil [] [] [0, 4] [0, 1] (s' := ⟨[(0, .c (.wh 0)), (4, .c (.wh 1))], [], [⟨(.ro false), 5, 1, m0_4, .b l0_4⟩, ⟨.row, 47, 1, (Int.tdiv (((m0_4 : Nat) : Int) + 3) 4).toNat, .w (List.replicate ((Int.tdiv (((m0_4 : Nat) : Int) + 3) 4).toNat) 0)⟩]⟩) (by kernel_rfl) (allP_cons.2 ⟨g1, (allP_cons.2 ⟨g2, (allP_cons.2 ⟨g3, (allP_cons.2 ⟨g4, (allP_cons.2 ⟨g5, (allP_cons.2 ⟨g6, allP_nil⟩)⟩)⟩)⟩)⟩)⟩) ?_
        refine W_seq ?_
        refine W_seq ?_
        refine W_reg hT ftL_nil [] [] [0, 4, 28, 29, 30] [0, 1] (s' := ⟨[(0, .c (.wh 0)), (4, .c (.wh 1)), (28, .c (.wh 0)), (29, .c (.s (.k .i64 ((m0_4 : Nat) : Int)))), (30, .c (.s (.k .i64 0)))], [], [⟨(.ro false), 5, 1, m0_4, .b l0_4⟩, ⟨.row, 47, 1, (Int.tdiv (((m0_4 : Nat) : Int) + 3) 4).toNat, .w (List.replicate ((Int.tdiv (((m0_4 : Nat) : Int) + 3) 4).toNat) 0)⟩]⟩) (by kernel_rfl) allP_nil ?_
        refine W_block ?_
        refine W_co [] [0, 4, 28, 29, 30] [0, 1] (s' := (pRead_l1_E l0_4 m0_4 (List.replicate ((Int.tdiv (((m0_4 : Nat) : Int) + 3) 4).toNat) 0) 0)) (by kernel_rfl) (W_lp ((pRead_l1_P n l0_4 m0_4 r)) n (pRead_l1_M h) ?_)
        rintro fu_l1 _ ⟨w4_1, i30_1, rfl, h⟩
        cases fu_l1 with
        | zero => cases h
        | succ fu_l1 =>
          refine ⟨fu_l1, rfl, ?_⟩
          rw [pRead_l1] at h
          refine W_seq ?_
          refine W_reg hT ftL_nil [] [] [0, 4, 28, 29, 30, 31] [0, 1] (s' := ⟨[(0, .c (.wh 0)), (4, .c (.wh 1)), (28, .c (.wh 0)), (29, .c (.s (.k .i64 ((m0_4 : Nat) : Int)))), (30, .c (.s (.k .i64 i30_1))), (31, .c (.s (.b (decide (i30_1 < ((m0_4 : Nat) : Int))))))], [], [⟨(.ro false), 5, 1, m0_4, .b l0_4⟩, ⟨.row, 47, 1, (Int.tdiv (((m0_4 : Nat) : Int) + 3) 4).toNat, .w w4_1⟩]⟩) (by kernel_rfl) allP_nil ?_
          refine W_seq ?_
          refine W_cond (b := (decide (i30_1 < ((m0_4 : Nat) : Int)))) (by kernel_rfl) (fun g21 => ?_) (fun g21 => ?_)
          · replace h := bif_t h g21
            refine W_co [] [0, 4, 28, 29, 30] [0, 1] (s' := ⟨[(0, .c (.wh 0)), (4, .c (.wh 1)), (28, .c (.wh 0)), (29, .c (.s (.k .i64 ((m0_4 : Nat) : Int)))), (30, .c (.s (.k .i64 i30_1)))], [], [⟨(.ro false), 5, 1, m0_4, .b l0_4⟩, ⟨.row, 47, 1, (Int.tdiv (((m0_4 : Nat) : Int) + 3) 4).toNat, .w w4_1⟩]⟩) (by kernel_rfl) (W_skip ?_)
            refine W_seq ?_
            refine W_block ?_
            refine W_seq ?_
            obtain ⟨g7, h⟩ := gd_some h
            obtain ⟨g8, h⟩ := gd_some h
            refine W_reg hT ftL_nil [] [] [0, 4, 5, 6, 28, 29, 30] [0, 1] (s' := ⟨[(0, .c (.wh 0)), (4, .c (.wh 1)), (5, .c (.s (.k .i64 i30_1))), (6, .c (.s (.u8 (l0_4.getD i30_1.toNat 0)))), (28, .c (.wh 0)), (29, .c (.s (.k .i64 ((m0_4 : Nat) : Int)))), (30, .c (.s (.k .i64 i30_1)))], [], [⟨(.ro false), 5, 1, m0_4, .b l0_4⟩, ⟨.row, 47, 1, (Int.tdiv (((m0_4 : Nat) : Int) + 3) 4).toNat, .w w4_1⟩]⟩) (by kernel_rfl) (allP_cons.2 ⟨g7, (allP_cons.2 ⟨g8, allP_nil⟩)⟩) ?_
            refine W_seq ?_
            obtain ⟨g9, h⟩ := gd_some h
            obtain ⟨g10, h⟩ := gd_some h
            refine W_reg hT ftL_nil [] [] [0, 4, 6, 7, 28, 29, 30] [0, 1] (s' := ⟨[(0, .c (.wh 0)), (4, .c (.wh 1)), (6, .c (.s (.u8 (l0_4.getD i30_1.toNat 0)))), (7, .c (.s (.k .i64 ((((m0_4 : Nat) : Int) - 1) - i30_1)))), (28, .c (.wh 0)), (29, .c (.s (.k .i64 ((m0_4 : Nat) : Int)))), (30, .c (.s (.k .i64 i30_1)))], [], [⟨(.ro false), 5, 1, m0_4, .b l0_4⟩, ⟨.row, 47, 1, (Int.tdiv (((m0_4 : Nat) : Int) + 3) 4).toNat, .w w4_1⟩]⟩) (by kernel_rfl) (allP_cons.2 ⟨g9, (allP_cons.2 ⟨g10, allP_nil⟩)⟩) ?_
            obtain ⟨g11, h⟩ := gd_some h
            obtain ⟨g12, h⟩ := gd_some h
            obtain ⟨g13, h⟩ := gd_some h
            obtain ⟨g14, h⟩ := gd_some h
            obtain ⟨g15, h⟩ := gd_some h
            obtain ⟨g16, h⟩ := gd_some h
            obtain ⟨g17, h⟩ := gd_some h
            obtain ⟨g18, h⟩ := gd_some h
            obtain ⟨g19, h⟩ := gd_some h
            refine W_regD hT ftL_nil (by kernel_rfl) 11 [] [(0, false), (4, false), (28, false), (29, false), (30, false), (40, false), (42, false), (44, false), (50, false)] [] [0, 4, 28, 29, 30] [0, 1] (s' := ⟨[(0, .c (.wh 0)), (4, .c (.wh 1)), (28, .c (.wh 0)), (29, .c (.s (.k .i64 ((m0_4 : Nat) : Int)))), (30, .c (.s (.k .i64 i30_1)))], [], [⟨(.ro false), 5, 1, m0_4, .b l0_4⟩, ⟨.row, 47, 1, (Int.tdiv (((m0_4 : Nat) : Int) + 3) 4).toNat, .w (w4_1.set ((Int.tdiv ((((m0_4 : Nat) : Int) - 1) - i30_1) 4).toNat) ((w4_1.getD ((Int.tdiv ((((m0_4 : Nat) : Int) - 1) - i30_1) 4).toNat) 0) ||| (shl32 ((l0_4.getD i30_1.toNat 0).toUInt32) (8 * (Int.tmod ((((m0_4 : Nat) : Int) - 1) - i30_1) 4)))))⟩]⟩) (by kernel_rfl) (by kernel_rfl) (allP_cons.2 ⟨g11, (allP_cons.2 ⟨g12, (allP_cons.2 ⟨g13, (allP_cons.2 ⟨g14, (allP_cons.2 ⟨g15, (allP_cons.2 ⟨g16, (allP_cons.2 ⟨g17, (allP_cons.2 ⟨g18, (allP_cons.2 ⟨g19, allP_nil⟩)⟩)⟩)⟩)⟩)⟩)⟩)⟩)⟩) ?_
            obtain ⟨g20, h⟩ := gd_some h
            refine W_reg hT ftL_nil [] [] [0, 4, 28, 29, 30] [0, 1] (s' := (pRead_l1_E l0_4 m0_4 (w4_1.set ((Int.tdiv ((((m0_4 : Nat) : Int) - 1) - i30_1) 4).toNat) ((w4_1.getD ((Int.tdiv ((((m0_4 : Nat) : Int) - 1) - i30_1) 4).toNat) 0) ||| (shl32 ((l0_4.getD i30_1.toNat 0).toUInt32) (8 * (Int.tmod ((((m0_4 : Nat) : Int) - 1) - i30_1) 4))))) (i30_1 + 1))) (by kernel_rfl) (allP_cons.2 ⟨g20, allP_nil⟩) ?_
            exact pRead_l1_M h
          · replace h := bif_f h g21
            refine W_co [] [4] [1] (s' := ⟨[(4, .c (.wh 0))], [], [⟨.row, 47, 1, (Int.tdiv (((m0_4 : Nat) : Int) + 3) 4).toNat, .w w4_1⟩]⟩) (by kernel_rfl) (W_exit ?_)
            refine W_seq ?_
            refine W_reg hT ftL_nil [] [] [2, 3] [0] (s' := ⟨[(2, .c (.wh 0)), (3, .c (.s (.v .nilIface)))], [], [⟨.row, 47, 1, (Int.tdiv (((m0_4 : Nat) : Int) + 3) 4).toNat, .w w4_1⟩]⟩) (by kernel_rfl) allP_nil ?_
            refine W_co [.er 3 33 .i64] [2, 3] [0] (s' := (pRead_R (w4_1, (Int.tdiv (((m0_4 : Nat) : Int) + 3) 4).toNat, none))) (by kernel_rfl) (W_ret ?_)
            exact ⟨.inl rfl, by cases h; rfl⟩
    · refine W_block ?_
      refine W_co [] [0] [0] (s' := (pRead_l2_E l0 l0.length)) (by kernel_rfl) (W_lp ((pRead_l2_P n r)) n (pRead_l2_M h) ?_)
      rintro fu_l2 _ ⟨l0_5, m0_5, rfl, h⟩
      cases fu_l2 with
      | zero => cases h
      | succ fu_l2 =>
        refine ⟨fu_l2, rfl, ?_⟩
        rw [pRead_l2] at h
        refine W_seq ?_
        refine W_seq ?_
        rcases Bool.eq_false_or_eq_true (decide ((0 : Int) < ((m0_5 : Nat) : Int))) with g23 | g23
        · replace h := bif_t h g23
          obtain ⟨g24, h⟩ := gd_some h
          obtain ⟨g25, h⟩ := gd_some h
          refine W_reg hT ftL_nil [(3, true)] [] [0, 16] [0] (s' := ⟨[(0, .c (.wh 0)), (16, .c (.s (.b ((l0_5.getD 0 0) == 0))))], [], [⟨(.ro false), 5, 1, m0_5, .b l0_5⟩]⟩) (by kernel_rfl) (allP_cons.2 ⟨g23, (allP_cons.2 ⟨g24, (allP_cons.2 ⟨g25, allP_nil⟩)⟩)⟩) ?_
          refine W_cond (b := ((l0_5.getD 0 0) == 0)) (by kernel_rfl) (fun g28 => ?_) (fun g28 => ?_)
          · replace h := bif_t h g28
            refine W_co [] [0] [0] (s' := ⟨[(0, .c (.wh 0))], [], [⟨(.ro false), 5, 1, m0_5, .b l0_5⟩]⟩) (by kernel_rfl) (W_skip ?_)
            refine W_block ?_
            obtain ⟨g26, h⟩ := gd_some h
            obtain ⟨g27, h⟩ := gd_some h
            refine W_reg hT ftL_nil [] [.vw 0 false] [0] [1] (s' := (pRead_l2_E ((l0_5.drop 1).take (m0_5 - 1)) (m0_5 - 1))) (by kernel_rfl) (allP_cons.2 ⟨g26, (allP_cons.2 ⟨g27, allP_nil⟩)⟩) ?_
            exact pRead_l2_M h
          · replace h := bif_f h g28
            refine W_co [] [0] [0] (s' := (pRead_j1_E l0_5 m0_5)) (by kernel_rfl) (W_exit ?_)
            exact pRead_j1_M h
        · replace h := bif_f h g23
          refine W_reg hT ftL_nil [(3, false)] [] [0, 16] [0] (s' := ⟨[(0, .c (.wh 0)), (16, .c (.s (.b false)))], [], [⟨(.ro false), 5, 1, m0_5, .b l0_5⟩]⟩) (by kernel_rfl) (allP_cons.2 ⟨g23, allP_nil⟩) ?_
          refine W_cond (b := false) (by kernel_rfl) (fun hb => by cases hb) (fun _ => ?_)
          refine W_co [] [0] [0] (s' := (pRead_j1_E l0_5 m0_5)) (by kernel_rfl) (W_exit ?_)
          exact pRead_j1_M h
  · rintro e s' ⟨he, rfl⟩
    refine ⟨he, fun a' w' hr => ?_⟩
    exact retS_ok tabO_rc hr (rs := [.tmp 2, .tmp 3]) rfl (objs := [0]) (by kernel_rfl)
def kpower_R (r : List UInt8 × Nat × Bool) : S := ⟨[(6, .c (.wh 0)), (7, .c (.s (.b r.2.2)))], [], [⟨.row, 5, 1, r.2.1, .b r.1⟩]⟩
def kpower_ct (n : Nat) (r : List UInt8 × Nat × Bool) : Ct := fun args H => match args with
  | [x0, x1, x2] => (match aB H x0 with | some l0 => (match aW H x1 with | some l1 => (match aW H x2 with | some l2 => some ([kpower n l0 l1 l2 = some r], shA H.length (.t [.c (.wh 0), .c (.s (.b r.2.2))]), shH H.length [⟨.row, 5, 1, r.2.1, .b r.1⟩]) | none => none) | none => none) | none => none)
  | _ => none
theorem kpower_ok (n : Nat) (r : List UInt8 × Nat × Bool) : FnOk Try.prog Tr 18 (kpower_ct n r) := by
  refine ⟨fun args H g av objs hF hg ρ w vals hG hp ha => ?_, _, Try.func18, by kernel_rfl, by kernel_rfl⟩
  obtain ⟨x0, x1, x2, rfl⟩ : ∃ x0 x1 x2, args = [x0, x1, x2] := by
    unfold kpower_ct at hF; split at hF
    · exact ⟨_, _, _, rfl⟩
    · cases hF
  cases e0 : aB H x0 with
  | none => simp only [kpower_ct, e0, reduceCtorEq] at hF
  | some l0 =>
  cases e1 : aW H x1 with
  | none => simp only [kpower_ct, e0, e1, reduceCtorEq] at hF
  | some l1 =>
  cases e2 : aW H x2 with
  | none => simp only [kpower_ct, e0, e1, e2, reduceCtorEq] at hF
  | some l2 =>
  simp only [kpower_ct, e0, e1, e2, Option.some.injEq, Prod.mk.injEq] at hF
  obtain ⟨rfl, rfl, rfl⟩ := hF
  obtain ⟨v0, vals, rfl, k0, ha⟩ := F2.inv ha
  obtain ⟨v1, vals, rfl, k1, ha⟩ := F2.inv ha
  obtain ⟨v2, vals, rfl, k2, ha⟩ := F2.inv ha
  obtain rfl := F2.inv0 ha
  have hI : ∀ w', Kp (noB (fun _ => undef)) w w' → Tr w' := fun _ hk => Tr.keep hk.below hG
  have h : kpower n l0 l1 l2 = some r := hg
  obtain ⟨p0, s0, o0⟩ := aB_ok hp e0 (k0) 5
  obtain ⟨p1, s1, o1⟩ := aW_ok hp e1 (k1) 47
  obtain ⟨p2, s2, o2⟩ := aW_ok hp e2 (k2) 47
  have hR0 := rel0 (gv := (fun _ => undef)) (n := 52) (w := w) (args := [.c (.wh 0), .c (.wh 1), .c (.wh 2)]) (H := [⟨.ro false, 5, 1, l0.length, .b l0⟩, ⟨.ro false, 47, 1, l1.length, .w l1⟩, ⟨.ro false, 47, 1, l2.length, .w l2⟩]) (gl := []) (hpL (ps := [p0, p1, p2]) (F2.cons o0 (F2.cons o1 (F2.cons o2 F2.nil)))) (allRo_ok rfl) (F2.cons s0 (F2.cons s1 (F2.cons s2 F2.nil))) GlR.nil (by simp)
  clear ha hp hg k0 k1 k2 e0 e1 e2
  refine calls_W Try.func18 rfl rfl hR0 (Q := fun e s => (e = .ret ∨ e = .normal) ∧ s = kpower_R r) ?_ ?_
  · clear hR0
    unfold kpower at h
    have hT := tabO_rc
    refine W_seq ?_
    refine W_reg hT ftL_nil [] [] [0, 1, 2] [0, 1, 2] (s' := ⟨[(0, .c (.wh 0)), (1, .c (.wh 1)), (2, .c (.wh 2))], [], [⟨(.ro false), 5, 1, l0.length, .b l0⟩, ⟨(.ro false), 47, 1, l1.length, .w l1⟩, ⟨(.ro false), 47, 1, l2.length, .w l2⟩]⟩) (by kernel_rfl) allP_nil ?_
    refine W_seq ?_
    obtain ⟨r14, g1, h⟩ := bind_some' h
    refine W_reg hT (ftL_cons (k := 1) (f := 27) (F := (ksize_ct n r14)) (ksize_ok n r14) (fun _ _ => True.intro) ftL_nil) [] [] [0, 1, 2, 8] [0, 1, 2] (s' := ⟨[(0, .c (.wh 0)), (1, .c (.wh 1)), (2, .c (.wh 2)), (8, .c (.s (.k .i64 r14)))], [], [⟨(.ro false), 5, 1, l0.length, .b l0⟩, ⟨(.ro false), 47, 1, l1.length, .w l1⟩, ⟨(.ro false), 47, 1, l2.length, .w l2⟩]⟩) (by kernel_rfl) (allP_cons.2 ⟨g1, allP_nil⟩) ?_
    refine W_seq ?_
    obtain ⟨r17, g2, h⟩ := bind_some' h
    refine W_reg hT (ftL_cons (k := 1) (f := 37) (F := (pRead_ct n r17)) (pRead_ok n r17) (fun _ _ => True.intro) ftL_nil) [] [] [0, 1, 2, 8, 9, 10] [0, 1, 2, 3] (s' := ⟨[(0, .c (.wh 0)), (1, .c (.wh 1)), (2, .c (.wh 2)), (8, .c (.s (.k .i64 r14))), (9, .c (.wh 3)), (10, .c (.s (.er 33 .i64 r17.2.2)))], [], [⟨(.ro false), 5, 1, l0.length, .b l0⟩, ⟨(.ro false), 47, 1, l1.length, .w l1⟩, ⟨(.ro false), 47, 1, l2.length, .w l2⟩, ⟨.row, 47, 1, r17.2.1, .w r17.1⟩]⟩) (by kernel_rfl) (allP_cons.2 ⟨g2, allP_nil⟩) ?_
    refine W_seq ?_
    refine W_seq ?_
    rcases Bool.eq_false_or_eq_true (!((r17.2.2).isNone)) with g3 | g3
    · replace h := bif_t h g3
      refine W_reg hT ftL_nil [(2, true)] [] [1, 2, 8, 9, 33] [1, 2, 3] (s' := ⟨[(1, .c (.wh 0)), (2, .c (.wh 1)), (8, .c (.s (.k .i64 r14))), (9, .c (.wh 2)), (33, .c (.s (.b true)))], [], [⟨(.ro false), 47, 1, l1.length, .w l1⟩, ⟨(.ro false), 47, 1, l2.length, .w l2⟩, ⟨.row, 47, 1, r17.2.1, .w r17.1⟩]⟩) (by kernel_rfl) (allP_cons.2 ⟨g3, allP_nil⟩) ?_
      refine W_cond (b := true) (by kernel_rfl) (fun _ => ?_) (fun hb => by cases hb)
      refine W_seq ?_
      refine W_reg hT ftL_nil [] [] [6, 7] [] (s' := ⟨[(6, .c (.nils)), (7, .c (.s (.b false)))], [], []⟩) (by kernel_rfl) allP_nil ?_
      refine W_co [.nil 6 5 1 (.b [])] [6, 7] [0] (s' := (kpower_R ([], 0, false))) (by kernel_rfl) (W_ret ?_)
      exact ⟨.inl rfl, by cases h; rfl⟩
    · replace h := bif_f h g3
      rcases Bool.eq_false_or_eq_true (((l0.length : Nat) : Int) != r14) with g4 | g4
      · replace h := bif_t h g4
        refine W_reg hT ftL_nil [(2, false), (8, true)] [] [1, 2, 8, 9, 33] [1, 2, 3] (s' := ⟨[(1, .c (.wh 0)), (2, .c (.wh 1)), (8, .c (.s (.k .i64 r14))), (9, .c (.wh 2)), (33, .c (.s (.b true)))], [], [⟨(.ro false), 47, 1, l1.length, .w l1⟩, ⟨(.ro false), 47, 1, l2.length, .w l2⟩, ⟨.row, 47, 1, r17.2.1, .w r17.1⟩]⟩) (by kernel_rfl) (allP_cons.2 ⟨g3, (allP_cons.2 ⟨g4, allP_nil⟩)⟩) ?_
        refine W_cond (b := true) (by kernel_rfl) (fun _ => ?_) (fun hb => by cases hb)
        refine W_seq ?_
        refine W_reg hT ftL_nil [] [] [6, 7] [] (s' := ⟨[(6, .c (.nils)), (7, .c (.s (.b false)))], [], []⟩) (by kernel_rfl) allP_nil ?_
        refine W_co [.nil 6 5 1 (.b [])] [6, 7] [0] (s' := (kpower_R ([], 0, false))) (by kernel_rfl) (W_ret ?_)
        exact ⟨.inl rfl, by cases h; rfl⟩
      · replace h := bif_f h g4
        obtain ⟨r31, g5, h⟩ := bind_some' h
        refine W_reg hT (ftL_cons (k := 11) (f := 32) (F := (pCmp_ct n r31)) (pCmp_ok n r31) (fun _ _ => True.intro) ftL_nil) [(2, false), (8, false)] [] [1, 2, 8, 9, 33] [1, 2, 3] (s' := ⟨[(1, .c (.wh 0)), (2, .c (.wh 1)), (8, .c (.s (.k .i64 r14))), (9, .c (.wh 2)), (33, .c (.s (.b (decide ((0 : Int) ≤ r31)))))], [], [⟨(.ro false), 47, 1, l1.length, .w l1⟩, ⟨(.ro false), 47, 1, l2.length, .w l2⟩, ⟨.row, 47, 1, r17.2.1, .w r17.1⟩]⟩) (by kernel_rfl) (allP_cons.2 ⟨g3, (allP_cons.2 ⟨g4, (allP_cons.2 ⟨g5, allP_nil⟩)⟩)⟩) ?_
        refine W_cond (b := (decide ((0 : Int) ≤ r31))) (by kernel_rfl) (fun g9 => ?_) (fun g9 => ?_)
        · replace h := bif_t h g9
          refine W_seq ?_
          refine W_reg hT ftL_nil [] [] [6, 7] [] (s' := ⟨[(6, .c (.nils)), (7, .c (.s (.b false)))], [], []⟩) (by kernel_rfl) allP_nil ?_
          refine W_co [.nil 6 5 1 (.b [])] [6, 7] [0] (s' := (kpower_R ([], 0, false))) (by kernel_rfl) (W_ret ?_)
          exact ⟨.inl rfl, by cases h; rfl⟩
        · replace h := bif_f h g9
          refine W_co [] [1, 2, 8, 9] [0, 1, 2] (s' := ⟨[(1, .c (.wh 0)), (2, .c (.wh 1)), (8, .c (.s (.k .i64 r14))), (9, .c (.wh 2))], [], [⟨(.ro false), 47, 1, l1.length, .w l1⟩, ⟨(.ro false), 47, 1, l2.length, .w l2⟩, ⟨.row, 47, 1, r17.2.1, .w r17.1⟩]⟩) (by kernel_rfl) (W_skip ?_)
          refine W_seq ?_
          obtain ⟨r38, g6, h⟩ := bind_some' h
          refine W_reg hT (ftL_cons (k := 3) (f := 38) (F := (pExp_ct n r38)) (pExp_ok n r38) (fun _ _ => True.intro) ftL_nil) [] [] [8, 10, 11] [3] (s' := ⟨[(8, .c (.s (.k .i64 r14))), (10, .c (.s (.er 33 .i64 r38.2))), (11, .c (.wh 0))], [], [⟨.row, 47, 1, r38.1.length, .w r38.1⟩]⟩) (by kernel_rfl) (allP_cons.2 ⟨g6, allP_nil⟩) ?_
          refine W_seq ?_
          refine W_seq ?_
          refine W_reg hT ftL_nil [] [] [8, 11, 42] [0] (s' := ⟨[(8, .c (.s (.k .i64 r14))), (11, .c (.wh 0)), (42, .c (.s (.b (!((r38.2).isNone)))))], [], [⟨.row, 47, 1, r38.1.length, .w r38.1⟩]⟩) (by kernel_rfl) allP_nil ?_
          refine W_cond (b := (!((r38.2).isNone))) (by kernel_rfl) (fun g8 => ?_) (fun g8 => ?_)
          · replace h := bif_t h g8
            refine W_seq ?_
            refine W_reg hT ftL_nil [] [] [6, 7] [] (s' := ⟨[(6, .c (.nils)), (7, .c (.s (.b false)))], [], []⟩) (by kernel_rfl) allP_nil ?_
            refine W_co [.nil 6 5 1 (.b [])] [6, 7] [0] (s' := (kpower_R ([], 0, false))) (by kernel_rfl) (W_ret ?_)
            exact ⟨.inl rfl, by cases h; rfl⟩
          · replace h := bif_f h g8
            refine W_co [] [8, 11] [0] (s' := ⟨[(8, .c (.s (.k .i64 r14))), (11, .c (.wh 0))], [], [⟨.row, 47, 1, r38.1.length, .w r38.1⟩]⟩) (by kernel_rfl) (W_skip ?_)
            refine W_seq ?_
            obtain ⟨r46, g7, h⟩ := bind_some' h
            refine W_reg hT (ftL_cons (k := 2) (f := 39) (F := (pWrite_ct n r46)) (pWrite_ok n r46) (fun _ _ => True.intro) ftL_nil) [] [] [10, 12] [1] (s' := ⟨[(10, .c (.s (.er 33 .i64 r46.2.2))), (12, .c (.wh 0))], [], [⟨.row, 5, 1, r46.2.1, .b r46.1⟩]⟩) (by kernel_rfl) (allP_cons.2 ⟨g7, allP_nil⟩) ?_
            refine W_seq ?_
            refine W_regD hT ftL_nil (by kernel_rfl) 4 [] [(6, false), (51, false)] [] [6, 7] [0] (s' := ⟨[(6, .c (.wh 0)), (7, .c (.s (.b ((r46.2.2).isNone))))], [], [⟨.row, 5, 1, r46.2.1, .b r46.1⟩]⟩) (by kernel_rfl) (by kernel_rfl) allP_nil ?_
            refine W_co [] [6, 7] [0] (s' := (kpower_R (r46.1, r46.2.1, (r46.2.2).isNone))) (by kernel_rfl) (W_ret ?_)
            exact ⟨.inl rfl, by cases h; rfl⟩
  · rintro e s' ⟨he, rfl⟩
    refine ⟨he, fun a' w' hr => ?_⟩
    exact retS_ok tabO_rc hr (rs := [.tmp 6, .tmp 7]) rfl (objs := [0]) (by kernel_rfl)
def kIndex_l1_E (a0 : List UInt8) (a1 : UInt8) (i8_2 : Int) : S := ⟨[(0, .c (.wh 0)), (1, .c (.s (.u8 a1))), (7, .c (.s (.k .i64 ((a0.length : Nat) : Int)))), (8, .c (.s (.k .i64 i8_2)))], [], [⟨(.ro false), 5, 1, a0.length, .b a0⟩]⟩
def kIndex_l1_P (n : Nat) (a0 : List UInt8) (a1 : UInt8) (r : Int) (fu : Nat) : S → Prop := fun s => ∃ (i8_2 : Int), s = kIndex_l1_E a0 a1 i8_2 ∧ kIndex_l1 n a0 a1 fu i8_2 = some r
theorem kIndex_l1_M {n : Nat} {a0 : List UInt8} {a1 : UInt8} {i8_2 : Int} {r : Int} {fu : Nat} (h : kIndex_l1 n a0 a1 fu i8_2 = some r) : kIndex_l1_P n a0 a1 r fu (kIndex_l1_E a0 a1 i8_2) := ⟨i8_2, rfl, h⟩
def kIndex_R (r : Int) : S := ⟨[(4, .c (.s (.k .i64 r)))], [], []⟩
def kIndex_ct (n : Nat) (r : Int) : Ct := fun args H => match args with
  | [x0, x1] => (match aB H x0 with | some l0 => (match aU8 x1 with | some l1 => some ([kIndex n l0 l1 = some r], shA H.length (.c (.s (.k .i64 r))), shH H.length []) | none => none) | none => none)
  | _ => none
theorem kIndex_ok (n : Nat) (r : Int) : FnOk Try.prog Tr 19 (kIndex_ct n r) := by
  refine ⟨fun args H g av objs hF hg ρ w vals hG hp ha => ?_, _, Try.func19, by kernel_rfl, by kernel_rfl⟩
  obtain ⟨x0, x1, rfl⟩ : ∃ x0 x1, args = [x0, x1] := by
    unfold kIndex_ct at hF; split at hF
    · exact ⟨_, _, rfl⟩
    · cases hF
  cases e0 : aB H x0 with
  | none => simp only [kIndex_ct, e0, reduceCtorEq] at hF
  | some l0 =>
  cases e1 : aU8 x1 with
  | none => simp only [kIndex_ct, e0, e1, reduceCtorEq] at hF
  | some l1 =>
  simp only [kIndex_ct, e0, e1, Option.some.injEq, Prod.mk.injEq] at hF
  obtain ⟨rfl, rfl, rfl⟩ := hF
  obtain ⟨v0, vals, rfl, k0, ha⟩ := F2.inv ha
  obtain ⟨v1, vals, rfl, k1, ha⟩ := F2.inv ha
  obtain rfl := F2.inv0 ha
  have hI : ∀ w', Kp (noB (fun _ => undef)) w w' → Tr w' := fun _ hk => Tr.keep hk.below hG
  have h : kIndex n l0 l1 = some r := hg
  obtain ⟨p0, s0, o0⟩ := aB_ok hp e0 (k0) 5
  have s1 := aU8_ok e1 (k1)
  have hR0 := rel0 (gv := (fun _ => undef)) (n := 19) (w := w) (args := [.c (.wh 0), .c (.s (.u8 l1))]) (H := [⟨.ro false, 5, 1, l0.length, .b l0⟩]) (gl := []) (hpL (ps := [p0]) (F2.cons o0 F2.nil)) (allRo_ok rfl) (F2.cons s0 (F2.cons s1 F2.nil)) GlR.nil (by simp)
  clear ha hp hg k0 k1 e0 e1
  refine calls_W Try.func19 rfl rfl hR0 (Q := fun e s => (e = .ret ∨ e = .normal) ∧ s = kIndex_R r) ?_ ?_
  · clear hR0
    unfold kIndex at h
    have hT := tabO_rc
    refine W_seq ?_
    refine W_reg hT ftL_nil [] [] [0, 1] [0] (s' := ⟨[(0, .c (.wh 0)), (1, .c (.s (.u8 l1)))], [], [⟨(.ro false), 5, 1, l0.length, .b l0⟩]⟩) (by kernel_rfl) allP_nil ?_
    refine W_seq ?_
    refine W_seq ?_
    refine W_reg hT ftL_nil [] [] [0, 1, 7, 8] [0] (s' := ⟨[(0, .c (.wh 0)), (1, .c (.s (.u8 l1))), (7, .c (.s (.k .i64 ((l0.length : Nat) : Int)))), (8, .c (.s (.k .i64 0)))], [], [⟨(.ro false), 5, 1, l0.length, .b l0⟩]⟩) (by kernel_rfl) allP_nil ?_
    refine W_block ?_
    refine W_co [] [0, 1, 7, 8] [0] (s' := (kIndex_l1_E l0 l1 0)) (by kernel_rfl) (W_lp ((kIndex_l1_P n l0 l1 r)) n (kIndex_l1_M h) ?_)
    rintro fu_l1 _ ⟨i8_2, rfl, h⟩
    cases fu_l1 with
    | zero => cases h
    | succ fu_l1 =>
      refine ⟨fu_l1, rfl, ?_⟩
      rw [kIndex_l1] at h
      refine W_seq ?_
      refine W_reg hT ftL_nil [] [] [0, 1, 7, 8, 9] [0] (s' := ⟨[(0, .c (.wh 0)), (1, .c (.s (.u8 l1))), (7, .c (.s (.k .i64 ((l0.length : Nat) : Int)))), (8, .c (.s (.k .i64 i8_2))), (9, .c (.s (.b (decide (i8_2 < ((l0.length : Nat) : Int))))))], [], [⟨(.ro false), 5, 1, l0.length, .b l0⟩]⟩) (by kernel_rfl) allP_nil ?_
      refine W_seq ?_
      refine W_cond (b := (decide (i8_2 < ((l0.length : Nat) : Int)))) (by kernel_rfl) (fun g5 => ?_) (fun g5 => ?_)
      · replace h := bif_t h g5
        refine W_co [] [0, 1, 7, 8] [0] (s' := ⟨[(0, .c (.wh 0)), (1, .c (.s (.u8 l1))), (7, .c (.s (.k .i64 ((l0.length : Nat) : Int)))), (8, .c (.s (.k .i64 i8_2)))], [], [⟨(.ro false), 5, 1, l0.length, .b l0⟩]⟩) (by kernel_rfl) (W_skip ?_)
        refine W_seq ?_
        refine W_block ?_
        refine W_seq ?_
        refine W_reg hT ftL_nil [] [] [0, 1, 5, 7, 8] [0] (s' := ⟨[(0, .c (.wh 0)), (1, .c (.s (.u8 l1))), (5, .c (.s (.k .i64 i8_2))), (7, .c (.s (.k .i64 ((l0.length : Nat) : Int)))), (8, .c (.s (.k .i64 i8_2)))], [], [⟨(.ro false), 5, 1, l0.length, .b l0⟩]⟩) (by kernel_rfl) allP_nil ?_
        refine W_seq ?_
        obtain ⟨g1, h⟩ := gd_some h
        obtain ⟨g2, h⟩ := gd_some h
        refine W_reg hT ftL_nil [] [] [0, 1, 5, 7, 8, 16] [0] (s' := ⟨[(0, .c (.wh 0)), (1, .c (.s (.u8 l1))), (5, .c (.s (.k .i64 i8_2))), (7, .c (.s (.k .i64 ((l0.length : Nat) : Int)))), (8, .c (.s (.k .i64 i8_2))), (16, .c (.s (.b (l1 == (l0.getD i8_2.toNat 0)))))], [], [⟨(.ro false), 5, 1, l0.length, .b l0⟩]⟩) (by kernel_rfl) (allP_cons.2 ⟨g1, (allP_cons.2 ⟨g2, allP_nil⟩)⟩) ?_
        refine W_cond (b := (l1 == (l0.getD i8_2.toNat 0))) (by kernel_rfl) (fun g4 => ?_) (fun g4 => ?_)
        · replace h := bif_t h g4
          refine W_seq ?_
          refine W_reg hT ftL_nil [] [] [4] [] (s' := ⟨[(4, .c (.s (.k .i64 i8_2)))], [], []⟩) (by kernel_rfl) allP_nil ?_
          refine W_co [] [4] [] (s' := (kIndex_R i8_2)) (by kernel_rfl) (W_ret ?_)
          exact ⟨.inl rfl, by cases h; rfl⟩
        · replace h := bif_f h g4
          refine W_co [] [0, 1, 7, 8] [0] (s' := ⟨[(0, .c (.wh 0)), (1, .c (.s (.u8 l1))), (7, .c (.s (.k .i64 ((l0.length : Nat) : Int)))), (8, .c (.s (.k .i64 i8_2)))], [], [⟨(.ro false), 5, 1, l0.length, .b l0⟩]⟩) (by kernel_rfl) (W_skip ?_)
          obtain ⟨g3, h⟩ := gd_some h
          refine W_reg hT ftL_nil [] [] [0, 1, 7, 8] [0] (s' := (kIndex_l1_E l0 l1 (i8_2 + 1))) (by kernel_rfl) (allP_cons.2 ⟨g3, allP_nil⟩) ?_
          exact kIndex_l1_M h
      · replace h := bif_f h g5
        refine W_co [] [] [] (s' := ⟨[], [], []⟩) (by kernel_rfl) (W_exit ?_)
        refine W_seq ?_
        refine W_reg hT ftL_nil [] [] [4] [] (s' := ⟨[(4, .c (.s (.k .i64 (-1))))], [], []⟩) (by kernel_rfl) allP_nil ?_
        refine W_co [] [4] [] (s' := (kIndex_R (-1))) (by kernel_rfl) (W_ret ?_)
        exact ⟨.inl rfl, by cases h; rfl⟩
  · rintro e s' ⟨he, rfl⟩
    refine ⟨he, fun a' w' hr => ?_⟩
    exact retS_ok tabO_rc hr (rs := [.tmp 4]) rfl (objs := []) (by kernel_rfl)
def klight_R (r : Bool) : S := ⟨[(2, .c (.s (.b r)))], [], []⟩
def klight_ct (n : Nat) (r : Bool) : Ct := fun args H => match args with
  | [x0] => (match aGc 3 x0 with | some y0 => (match aW H (.c (y0.getD 0 .junk)) with | some l0_0 => (match aW H (.c (y0.getD 1 .junk)) with | some l0_1 => (match aW H (.c (y0.getD 2 .junk)) with | some l0_2 => some ([klight n l0_0 l0_1 l0_2 = some r], shA H.length (.c (.s (.b r))), shH H.length []) | none => none) | none => none) | none => none) | none => none)
  | _ => none
theorem klight_ok (n : Nat) (r : Bool) : FnOk Try.prog Tr 6 (klight_ct n r) := by
  refine ⟨fun args H g av objs hF hg ρ w vals hG hp ha => ?_, _, Try.func6, by kernel_rfl, by kernel_rfl⟩
  obtain ⟨x0, rfl⟩ : ∃ x0, args = [x0] := by
    unfold klight_ct at hF; split at hF
    · exact ⟨_, rfl⟩
    · cases hF
  cases e0 : aGc 3 x0 with
  | none => simp only [klight_ct, e0, reduceCtorEq] at hF
  | some y0 =>
  cases e1 : aW H (.c (y0.getD 0 .junk)) with
  | none => simp only [klight_ct, e0, e1, reduceCtorEq] at hF
  | some l0_0 =>
  cases e2 : aW H (.c (y0.getD 1 .junk)) with
  | none => simp only [klight_ct, e0, e1, e2, reduceCtorEq] at hF
  | some l0_1 =>
  cases e3 : aW H (.c (y0.getD 2 .junk)) with
  | none => simp only [klight_ct, e0, e1, e2, e3, reduceCtorEq] at hF
  | some l0_2 =>
  simp only [klight_ct, e0, e1, e2, e3, Option.some.injEq, Prod.mk.injEq] at hF
  obtain ⟨rfl, rfl, rfl⟩ := hF
  obtain ⟨v0, vals, rfl, k0, ha⟩ := F2.inv ha
  obtain rfl := F2.inv0 ha
  have hI : ∀ w', Kp (noB (fun _ => undef)) w w' → Tr w' := fun _ hk => Tr.keep hk.below hG
  have h : klight n l0_0 l0_1 l0_2 = some r := hg
  obtain ⟨vs0, hn0, rfl, hy0⟩ := aGc_ok e0 k0
  obtain ⟨p0_0, s0_0, o0_0⟩ := aW_ok hp e1 (hy0 0 (by decide)) 47
  obtain ⟨p0_1, s0_1, o0_1⟩ := aW_ok hp e2 (hy0 1 (by decide)) 47
  obtain ⟨p0_2, s0_2, o0_2⟩ := aW_ok hp e3 (hy0 2 (by decide)) 47
  have hR0 := rel0 (gv := (fun _ => undef)) (n := 19) (w := w) (args := [.g 3 (.c [.wh 0, .wh 1, .wh 2])]) (H := [⟨.ro false, 47, 1, l0_0.length, .w l0_0⟩, ⟨.ro false, 47, 1, l0_1.length, .w l0_1⟩, ⟨.ro false, 47, 1, l0_2.length, .w l0_2⟩]) (gl := []) (hpL (ps := [p0_0, p0_1, p0_2]) (F2.cons o0_0 (F2.cons o0_1 (F2.cons o0_2 F2.nil)))) (allRo_ok rfl) (F2.cons ⟨vs0, (by rw [lstE undef hn0]; exact (F2.cons s0_0 (F2.cons s0_1 (F2.cons s0_2 F2.nil)))), hn0, rfl⟩ F2.nil) GlR.nil (by simp)
  clear ha hp hg k0 e0 e1 e2 e3
  refine calls_W Try.func6 rfl rfl hR0 (Q := fun e s => (e = .ret ∨ e = .normal) ∧ s = klight_R r) ?_ ?_
  · clear hR0
    unfold klight at h
    have hT := tabO_rc
    refine W_seq ?_
    refine W_reg hT ftL_nil [] [] [1] [3, 0, 1, 2] (s' := ⟨[(1, .c (.pt 0 0))], [], [⟨.blk, 25, 1, 3, .c [.wh 1, .wh 2, .wh 3]⟩, ⟨(.ro false), 47, 1, l0_0.length, .w l0_0⟩, ⟨(.ro false), 47, 1, l0_1.length, .w l0_1⟩, ⟨(.ro false), 47, 1, l0_2.length, .w l0_2⟩]⟩) (by kernel_rfl) allP_nil ?_
    refine W_seq ?_
    rcases Bool.eq_false_or_eq_true (decide (((l0_0.length : Nat) : Int) ≤ (70 : Int))) with g1 | g1
    · replace h := bif_t h g1
      rcases Bool.eq_false_or_eq_true (decide (((l0_1.length : Nat) : Int) ≤ (70 : Int))) with g2 | g2
      · replace h := bif_t h g2
        refine W_reg hT ftL_nil [(4, true), (10, true)] [] [2] [] (s' := ⟨[(2, .c (.s (.b (decide (((l0_2.length : Nat) : Int) ≤ (70 : Int))))))], [], []⟩) (by kernel_rfl) (allP_cons.2 ⟨g1, (allP_cons.2 ⟨g2, allP_nil⟩)⟩) ?_
        refine W_co [] [2] [] (s' := (klight_R (decide (((l0_2.length : Nat) : Int) ≤ (70 : Int))))) (by kernel_rfl) (W_ret ?_)
        exact ⟨.inl rfl, by cases h; rfl⟩
      · replace h := bif_f h g2
        refine W_reg hT ftL_nil [(4, true), (10, false)] [] [2] [] (s' := ⟨[(2, .c (.s (.b false)))], [], []⟩) (by kernel_rfl) (allP_cons.2 ⟨g1, (allP_cons.2 ⟨g2, allP_nil⟩)⟩) ?_
        refine W_co [] [2] [] (s' := (klight_R false)) (by kernel_rfl) (W_ret ?_)
        exact ⟨.inl rfl, by cases h; rfl⟩
    · replace h := bif_f h g1
      refine W_reg hT ftL_nil [(4, false)] [] [2] [] (s' := ⟨[(2, .c (.s (.b false)))], [], []⟩) (by kernel_rfl) (allP_cons.2 ⟨g1, allP_nil⟩) ?_
      refine W_co [] [2] [] (s' := (klight_R false)) (by kernel_rfl) (W_ret ?_)
      exact ⟨.inl rfl, by cases h; rfl⟩
  · rintro e s' ⟨he, rfl⟩
    refine ⟨he, fun a' w' hr => ?_⟩
    exact retS_ok tabO_rc hr (rs := [.tmp 2]) rfl (objs := []) (by kernel_rfl)
end Go.Proofs.Ythichmclbiggmaa
end
