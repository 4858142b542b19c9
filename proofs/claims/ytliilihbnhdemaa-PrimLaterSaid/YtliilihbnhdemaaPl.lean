import Derived.Test.YtliilihbnhdemaaSxX
import Derived.Test.YtliilihbnhdemaaProg
import Derived.Test.YtliilihbnhdemaaPr
set_option linter.unusedVariables false
set_option linter.unusedSimpArgs false
namespace Go.Proofs.Ytliilihbnhdemaa
open Go.RowKit Go.Ch Go.Sx

def tabL_pl : List (TypeId × Ti) := [(3, ⟨.int .i64, 1, 8, true, some [.int .i64]⟩),
  (4, ⟨.bool, 1, 1, true, some [.bool]⟩),
  (5, ⟨.int .u8, 1, 1, true, some [.int .u8]⟩),
  (9, ⟨.str, 1, 16, true, some [.str]⟩),
  (22, ⟨.sl 5, 1, 24, false, some [.nils]⟩),
  (28, ⟨.ifc, 1, 16, true, some [.ifc]⟩),
  (34, ⟨.st [(3, 0), (3, 1), (3, 2), (3, 3), (3, 4), (3, 5)], 6, 48, true, some [.int .i64, .int .i64, .int .i64, .int .i64, .int .i64, .int .i64]⟩)]
def tab_pl : Tab := fun t => (tabL_pl).lookup t
theorem tabE_pl : (tabL_pl.map fun p => tiOf Try.prog p.1) = tabL_pl.map fun p => some p.2 := by kernel_rfl
theorem tabO_pl : TabOk Try.prog tab_pl := tab_of tabE_pl

def lLater (n : Nat) (a0_0 : Int) (a0_1 : Int) (a0_2 : Int) (a0_3 : Int) (a0_4 : Int) (a0_5 : Int) (a1_0 : Int) (a1_1 : Int) (a1_2 : Int) (a1_3 : Int) (a1_4 : Int) (a1_5 : Int) : Option (Bool) :=
  (pup n).bind fun r16 =>
  (pCount n a0_0 a0_1 a0_2 a0_3 a0_4 a0_5).bind fun r19 =>
  (pCount n a1_0 a1_1 a1_2 a1_3 a1_4 a1_5).bind fun r24 =>
  (pTime n a0_0 a0_1 a0_2 a0_3 a0_4 a0_5).bind fun r29 =>
  (pTime n a1_0 a1_1 a1_2 a1_3 a1_4 a1_5).bind fun r35 =>
  bif (!((r19.2).isNone)) then
    bif r16 then
      bif (((r19.2).isNone) == ((r29.2.2).isNone)) then
        bif (((r24.2).isNone) == ((r35.2.2).isNone)) then
          bif (r19.1 != r24.1) then
            some true
          else
            bif (!((r19.2).isNone)) then
              some true
            else
              bif (!((r24.2).isNone)) then
                some true
              else
                some ((a0_0 == a1_0) && ((a0_1 == a1_1) && ((a0_2 == a1_2) && ((a0_3 == a1_3) && ((a0_4 == a1_4) && ((a0_5 == a1_5) && true))))))
        else
          some false
      else
        some false
    else
      some false
  else
    bif (!((r24.2).isNone)) then
      bif r16 then
        bif (((r19.2).isNone) == ((r29.2.2).isNone)) then
          bif (((r24.2).isNone) == ((r35.2.2).isNone)) then
            bif (r19.1 != r24.1) then
              some true
            else
              bif (!((r19.2).isNone)) then
                some true
              else
                bif (!((r24.2).isNone)) then
                  some true
                else
                  some ((a0_0 == a1_0) && ((a0_1 == a1_1) && ((a0_2 == a1_2) && ((a0_3 == a1_3) && ((a0_4 == a1_4) && ((a0_5 == a1_5) && true))))))
          else
            some false
        else
          some false
      else
        some false
    else
      bif (!((r29.2.2).isNone)) then
        bif r16 then
          bif (((r19.2).isNone) == ((r29.2.2).isNone)) then
            bif (((r24.2).isNone) == ((r35.2.2).isNone)) then
              bif (r19.1 != r24.1) then
                some true
              else
                bif (!((r19.2).isNone)) then
                  some true
                else
                  bif (!((r24.2).isNone)) then
                    some true
                  else
                    some ((a0_0 == a1_0) && ((a0_1 == a1_1) && ((a0_2 == a1_2) && ((a0_3 == a1_3) && ((a0_4 == a1_4) && ((a0_5 == a1_5) && true))))))
            else
              some false
          else
            some false
        else
          some false
      else
        bif (!((r35.2.2).isNone)) then
          bif r16 then
            bif (((r19.2).isNone) == ((r29.2.2).isNone)) then
              bif (((r24.2).isNone) == ((r35.2.2).isNone)) then
                bif (r19.1 != r24.1) then
                  some true
                else
                  bif (!((r19.2).isNone)) then
                    some true
                  else
                    bif (!((r24.2).isNone)) then
                      some true
                    else
                      some ((a0_0 == a1_0) && ((a0_1 == a1_1) && ((a0_2 == a1_2) && ((a0_3 == a1_3) && ((a0_4 == a1_4) && ((a0_5 == a1_5) && true))))))
              else
                some false
            else
              some false
          else
            some false
        else
          bif (decide (r24.1 ≤ r19.1)) then
            bif r16 then
              bif (((r19.2).isNone) == ((r29.2.2).isNone)) then
                bif (((r24.2).isNone) == ((r35.2.2).isNone)) then
                  bif (r19.1 != r24.1) then
                    some true
                  else
                    bif (!((r19.2).isNone)) then
                      some true
                    else
                      bif (!((r24.2).isNone)) then
                        some true
                      else
                        some ((a0_0 == a1_0) && ((a0_1 == a1_1) && ((a0_2 == a1_2) && ((a0_3 == a1_3) && ((a0_4 == a1_4) && ((a0_5 == a1_5) && true))))))
                else
                  some false
              else
                some false
            else
              some false
          else
            bif (r29.1 != r35.1) then
              some r16
            else
              bif (r29.1 == 23) then
                bif (decide (a0_0 < (2000 : Int))) then
                  bif (decide ((2000 : Int) ≤ a1_0)) then
                    some r16
                  else
                    bif r16 then
                      some (Op.bytesLess r29.2.1 r35.2.1)
                    else
                      some false
                else
                  bif r16 then
                    some (Op.bytesLess r29.2.1 r35.2.1)
                  else
                    some false
              else
                bif r16 then
                  some (Op.bytesLess r29.2.1 r35.2.1)
                else
                  some false

def lLater_R (r : Bool) : S := ⟨[(4, .c (.s (.b r)))], [], []⟩
def lLater_ct (n : Nat) (r : Bool) : Ct := fun args H => match args with
  | [x0, x1] => (match aGc 6 x0 with | some y0 => (match aI (.c (y0.getD 0 .junk)) with | some l0_0 => (match aI (.c (y0.getD 1 .junk)) with | some l0_1 => (match aI (.c (y0.getD 2 .junk)) with | some l0_2 => (match aI (.c (y0.getD 3 .junk)) with | some l0_3 => (match aI (.c (y0.getD 4 .junk)) with | some l0_4 => (match aI (.c (y0.getD 5 .junk)) with | some l0_5 => (match aGc 6 x1 with | some y1 => (match aI (.c (y1.getD 0 .junk)) with | some l1_0 => (match aI (.c (y1.getD 1 .junk)) with | some l1_1 => (match aI (.c (y1.getD 2 .junk)) with | some l1_2 => (match aI (.c (y1.getD 3 .junk)) with | some l1_3 => (match aI (.c (y1.getD 4 .junk)) with | some l1_4 => (match aI (.c (y1.getD 5 .junk)) with | some l1_5 => some ([lLater n l0_0 l0_1 l0_2 l0_3 l0_4 l0_5 l1_0 l1_1 l1_2 l1_3 l1_4 l1_5 = some r], shA H.length (.c (.s (.b r))), shH H.length []) | none => none) | none => none) | none => none) | none => none) | none => none) | none => none) | none => none) | none => none) | none => none) | none => none) | none => none) | none => none) | none => none) | none => none)
  | _ => none
theorem lLater_ok (n : Nat) (r : Bool) : FnOk Try.prog Tr 4 (lLater_ct n r) := by
  refine ⟨fun args H g av objs hF hg ρ w vals hG hp ha => ?_, _, Try.func4, by kernel_rfl, by kernel_rfl⟩
  obtain ⟨x0, x1, rfl⟩ : ∃ x0 x1, args = [x0, x1] := by
    unfold lLater_ct at hF; split at hF
    · exact ⟨_, _, rfl⟩
    · cases hF
  cases e0 : aGc 6 x0 with
  | none => simp only [lLater_ct, e0, reduceCtorEq] at hF
  | some y0 =>
  cases e1 : aI (.c (y0.getD 0 .junk)) with
  | none => simp only [lLater_ct, e0, e1, reduceCtorEq] at hF
  | some l0_0 =>
  cases e2 : aI (.c (y0.getD 1 .junk)) with
  | none => simp only [lLater_ct, e0, e1, e2, reduceCtorEq] at hF
  | some l0_1 =>
  cases e3 : aI (.c (y0.getD 2 .junk)) with
  | none => simp only [lLater_ct, e0, e1, e2, e3, reduceCtorEq] at hF
  | some l0_2 =>
  cases e4 : aI (.c (y0.getD 3 .junk)) with
  | none => simp only [lLater_ct, e0, e1, e2, e3, e4, reduceCtorEq] at hF
  | some l0_3 =>
  cases e5 : aI (.c (y0.getD 4 .junk)) with
  | none => simp only [lLater_ct, e0, e1, e2, e3, e4, e5, reduceCtorEq] at hF
  | some l0_4 =>
  cases e6 : aI (.c (y0.getD 5 .junk)) with
  | none => simp only [lLater_ct, e0, e1, e2, e3, e4, e5, e6, reduceCtorEq] at hF
  | some l0_5 =>
  cases e7 : aGc 6 x1 with
  | none => simp only [lLater_ct, e0, e1, e2, e3, e4, e5, e6, e7, reduceCtorEq] at hF
  | some y1 =>
  cases e8 : aI (.c (y1.getD 0 .junk)) with
  | none => simp only [lLater_ct, e0, e1, e2, e3, e4, e5, e6, e7, e8, reduceCtorEq] at hF
  | some l1_0 =>
  cases e9 : aI (.c (y1.getD 1 .junk)) with
  | none => simp only [lLater_ct, e0, e1, e2, e3, e4, e5, e6, e7, e8, e9, reduceCtorEq] at hF
  | some l1_1 =>
  cases e10 : aI (.c (y1.getD 2 .junk)) with
  | none => simp only [lLater_ct, e0, e1, e2, e3, e4, e5, e6, e7, e8, e9, e10, reduceCtorEq] at hF
  | some l1_2 =>
  cases e11 : aI (.c (y1.getD 3 .junk)) with
  | none => simp only [lLater_ct, e0, e1, e2, e3, e4, e5, e6, e7, e8, e9, e10, e11, reduceCtorEq] at hF
  | some l1_3 =>
  cases e12 : aI (.c (y1.getD 4 .junk)) with
  | none => simp only [lLater_ct, e0, e1, e2, e3, e4, e5, e6, e7, e8, e9, e10, e11, e12, reduceCtorEq] at hF
  | some l1_4 =>
  cases e13 : aI (.c (y1.getD 5 .junk)) with
  | none => simp only [lLater_ct, e0, e1, e2, e3, e4, e5, e6, e7, e8, e9, e10, e11, e12, e13, reduceCtorEq] at hF
  | some l1_5 =>
  simp only [lLater_ct, e0, e1, e2, e3, e4, e5, e6, e7, e8, e9, e10, e11, e12, e13, Option.some.injEq, Prod.mk.injEq] at hF
  obtain ⟨rfl, rfl, rfl⟩ := hF
  obtain ⟨v0, vals, rfl, k0, ha⟩ := F2.inv ha
  obtain ⟨v1, vals, rfl, k1, ha⟩ := F2.inv ha
  obtain rfl := F2.inv0 ha
  have hI : ∀ w', Kp (noB (fun _ => undef)) w w' → Tr w' := fun _ hk => Tr.keep hk.below hG
  have h : lLater n l0_0 l0_1 l0_2 l0_3 l0_4 l0_5 l1_0 l1_1 l1_2 l1_3 l1_4 l1_5 = some r := hg
  obtain ⟨vs0, hn0, rfl, hy0⟩ := aGc_ok e0 k0
  have s0_0 := aI_ok e1 (hy0 0 (by decide))
  have s0_1 := aI_ok e2 (hy0 1 (by decide))
  have s0_2 := aI_ok e3 (hy0 2 (by decide))
  have s0_3 := aI_ok e4 (hy0 3 (by decide))
  have s0_4 := aI_ok e5 (hy0 4 (by decide))
  have s0_5 := aI_ok e6 (hy0 5 (by decide))
  obtain ⟨vs1, hn1, rfl, hy1⟩ := aGc_ok e7 k1
  have s1_0 := aI_ok e8 (hy1 0 (by decide))
  have s1_1 := aI_ok e9 (hy1 1 (by decide))
  have s1_2 := aI_ok e10 (hy1 2 (by decide))
  have s1_3 := aI_ok e11 (hy1 3 (by decide))
  have s1_4 := aI_ok e12 (hy1 4 (by decide))
  have s1_5 := aI_ok e13 (hy1 5 (by decide))
  have hR0 := rel0 (gv := (fun _ => undef)) (n := 117) (w := w) (args := [.g 6 (.c [.s (.k .i64 l0_0), .s (.k .i64 l0_1), .s (.k .i64 l0_2), .s (.k .i64 l0_3), .s (.k .i64 l0_4), .s (.k .i64 l0_5)]), .g 6 (.c [.s (.k .i64 l1_0), .s (.k .i64 l1_1), .s (.k .i64 l1_2), .s (.k .i64 l1_3), .s (.k .i64 l1_4), .s (.k .i64 l1_5)])]) (H := []) (gl := []) (hpL (ps := []) F2.nil) (allRo_ok rfl) (F2.cons ⟨vs0, (by rw [lstE undef hn0]; exact (F2.cons s0_0 (F2.cons s0_1 (F2.cons s0_2 (F2.cons s0_3 (F2.cons s0_4 (F2.cons s0_5 F2.nil))))))), hn0, rfl⟩ (F2.cons ⟨vs1, (by rw [lstE undef hn1]; exact (F2.cons s1_0 (F2.cons s1_1 (F2.cons s1_2 (F2.cons s1_3 (F2.cons s1_4 (F2.cons s1_5 F2.nil))))))), hn1, rfl⟩ F2.nil)) GlR.nil (by simp)
  clear ha hp hg k0 k1 e0 e1 e2 e3 e4 e5 e6 e7 e8 e9 e10 e11 e12 e13
  refine calls_W Try.func4 rfl rfl hR0 (Q := fun e s => (e = .ret ∨ e = .normal) ∧ s = lLater_R r) ?_ ?_
  · clear hR0
    unfold lLater at h
    have hT := tabO_pl
    refine W_seq ?_
    refine W_reg hT ftL_nil [] [] [2, 3] [0, 1] (s' := ⟨[(2, .c (.pt 0 0)), (3, .c (.pt 1 0))], [], [⟨.blk, 34, 1, 6, .c [.s (.k .i64 l0_0), .s (.k .i64 l0_1), .s (.k .i64 l0_2), .s (.k .i64 l0_3), .s (.k .i64 l0_4), .s (.k .i64 l0_5)]⟩, ⟨.blk, 34, 1, 6, .c [.s (.k .i64 l1_0), .s (.k .i64 l1_1), .s (.k .i64 l1_2), .s (.k .i64 l1_3), .s (.k .i64 l1_4), .s (.k .i64 l1_5)]⟩]⟩) (by kernel_rfl) allP_nil ?_
    refine W_seq ?_
    obtain ⟨r16, g1, h⟩ := bind_some' h
    refine W_reg hT (ftL_cons (k := 0) (f := 14) (F := (pup_ct n r16)) (pup_ok n r16) (fun _ _ => True.intro) ftL_nil) [] [] [2, 3, 5] [0, 1] (s' := ⟨[(2, .c (.pt 0 0)), (3, .c (.pt 1 0)), (5, .c (.s (.b r16)))], [], [⟨.blk, 34, 1, 6, .c [.s (.k .i64 l0_0), .s (.k .i64 l0_1), .s (.k .i64 l0_2), .s (.k .i64 l0_3), .s (.k .i64 l0_4), .s (.k .i64 l0_5)]⟩, ⟨.blk, 34, 1, 6, .c [.s (.k .i64 l1_0), .s (.k .i64 l1_1), .s (.k .i64 l1_2), .s (.k .i64 l1_3), .s (.k .i64 l1_4), .s (.k .i64 l1_5)]⟩]⟩) (by kernel_rfl) (allP_cons.2 ⟨g1, allP_nil⟩) ?_
    refine W_seq ?_
    obtain ⟨r19, g2, h⟩ := bind_some' h
    refine W_reg hT (ftL_cons (k := 1) (f := 19) (F := (pCount_ct n r19)) (pCount_ok n r19) (fun _ _ => True.intro) ftL_nil) [] [] [2, 3, 5, 6, 7] [0, 1] (s' := ⟨[(2, .c (.pt 0 0)), (3, .c (.pt 1 0)), (5, .c (.s (.b r16))), (6, .c (.s (.k .i64 r19.1))), (7, .c (.s (.er 31 .i64 r19.2)))], [], [⟨.blk, 34, 1, 6, .c [.s (.k .i64 l0_0), .s (.k .i64 l0_1), .s (.k .i64 l0_2), .s (.k .i64 l0_3), .s (.k .i64 l0_4), .s (.k .i64 l0_5)]⟩, ⟨.blk, 34, 1, 6, .c [.s (.k .i64 l1_0), .s (.k .i64 l1_1), .s (.k .i64 l1_2), .s (.k .i64 l1_3), .s (.k .i64 l1_4), .s (.k .i64 l1_5)]⟩]⟩) (by kernel_rfl) (allP_cons.2 ⟨g2, allP_nil⟩) ?_
    refine W_seq ?_
    obtain ⟨r24, g3, h⟩ := bind_some' h
    refine W_reg hT (ftL_cons (k := 1) (f := 19) (F := (pCount_ct n r24)) (pCount_ok n r24) (fun _ _ => True.intro) ftL_nil) [] [] [2, 3, 5, 6, 7, 8, 9] [0, 1] (s' := ⟨[(2, .c (.pt 0 0)), (3, .c (.pt 1 0)), (5, .c (.s (.b r16))), (6, .c (.s (.k .i64 r19.1))), (7, .c (.s (.er 31 .i64 r19.2))), (8, .c (.s (.k .i64 r24.1))), (9, .c (.s (.er 31 .i64 r24.2)))], [], [⟨.blk, 34, 1, 6, .c [.s (.k .i64 l0_0), .s (.k .i64 l0_1), .s (.k .i64 l0_2), .s (.k .i64 l0_3), .s (.k .i64 l0_4), .s (.k .i64 l0_5)]⟩, ⟨.blk, 34, 1, 6, .c [.s (.k .i64 l1_0), .s (.k .i64 l1_1), .s (.k .i64 l1_2), .s (.k .i64 l1_3), .s (.k .i64 l1_4), .s (.k .i64 l1_5)]⟩]⟩) (by kernel_rfl) (allP_cons.2 ⟨g3, allP_nil⟩) ?_
    refine W_seq ?_
    obtain ⟨r29, g4, h⟩ := bind_some' h
    refine W_reg hT (ftL_cons (k := 1) (f := 20) (F := (pTime_ct n r29)) (pTime_ok n r29) (fun _ _ => True.intro) ftL_nil) [] [] [2, 3, 5, 6, 7, 8, 9, 10, 11, 12] [0, 1, 2] (s' := ⟨[(2, .c (.pt 0 0)), (3, .c (.pt 1 0)), (5, .c (.s (.b r16))), (6, .c (.s (.k .i64 r19.1))), (7, .c (.s (.er 31 .i64 r19.2))), (8, .c (.s (.k .i64 r24.1))), (9, .c (.s (.er 31 .i64 r24.2))), (10, .c (.s (.u8 r29.1))), (11, .c (.wh 2)), (12, .c (.s (.er 31 .i64 r29.2.2)))], [], [⟨.blk, 34, 1, 6, .c [.s (.k .i64 l0_0), .s (.k .i64 l0_1), .s (.k .i64 l0_2), .s (.k .i64 l0_3), .s (.k .i64 l0_4), .s (.k .i64 l0_5)]⟩, ⟨.blk, 34, 1, 6, .c [.s (.k .i64 l1_0), .s (.k .i64 l1_1), .s (.k .i64 l1_2), .s (.k .i64 l1_3), .s (.k .i64 l1_4), .s (.k .i64 l1_5)]⟩, ⟨.row, 5, 1, r29.2.1.length, .b r29.2.1⟩]⟩) (by kernel_rfl) (allP_cons.2 ⟨g4, allP_nil⟩) ?_
    refine W_seq ?_
    obtain ⟨r35, g5, h⟩ := bind_some' h
    refine W_reg hT (ftL_cons (k := 1) (f := 20) (F := (pTime_ct n r35)) (pTime_ok n r35) (fun _ _ => True.intro) ftL_nil) [] [] [2, 3, 5, 6, 7, 8, 9, 10, 11, 12, 13, 14, 15] [0, 1, 2, 3] (s' := ⟨[(2, .c (.pt 0 0)), (3, .c (.pt 1 0)), (5, .c (.s (.b r16))), (6, .c (.s (.k .i64 r19.1))), (7, .c (.s (.er 31 .i64 r19.2))), (8, .c (.s (.k .i64 r24.1))), (9, .c (.s (.er 31 .i64 r24.2))), (10, .c (.s (.u8 r29.1))), (11, .c (.wh 2)), (12, .c (.s (.er 31 .i64 r29.2.2))), (13, .c (.s (.u8 r35.1))), (14, .c (.wh 3)), (15, .c (.s (.er 31 .i64 r35.2.2)))], [], [⟨.blk, 34, 1, 6, .c [.s (.k .i64 l0_0), .s (.k .i64 l0_1), .s (.k .i64 l0_2), .s (.k .i64 l0_3), .s (.k .i64 l0_4), .s (.k .i64 l0_5)]⟩, ⟨.blk, 34, 1, 6, .c [.s (.k .i64 l1_0), .s (.k .i64 l1_1), .s (.k .i64 l1_2), .s (.k .i64 l1_3), .s (.k .i64 l1_4), .s (.k .i64 l1_5)]⟩, ⟨.row, 5, 1, r29.2.1.length, .b r29.2.1⟩, ⟨.row, 5, 1, r35.2.1.length, .b r35.2.1⟩]⟩) (by kernel_rfl) (allP_cons.2 ⟨g5, allP_nil⟩) ?_
    refine W_seq ?_
    refine W_seq ?_
    rcases Bool.eq_false_or_eq_true (!((r19.2).isNone)) with g6 | g6
    · replace h := bif_t h g6
      refine W_reg hT ftL_nil [(2, true)] [] [2, 3, 5, 6, 7, 8, 9, 10, 11, 12, 13, 14, 15, 57] [0, 1, 2, 3] (s' := ⟨[(2, .c (.pt 0 0)), (3, .c (.pt 1 0)), (5, .c (.s (.b r16))), (6, .c (.s (.k .i64 r19.1))), (7, .c (.s (.er 31 .i64 r19.2))), (8, .c (.s (.k .i64 r24.1))), (9, .c (.s (.er 31 .i64 r24.2))), (10, .c (.s (.u8 r29.1))), (11, .c (.wh 2)), (12, .c (.s (.er 31 .i64 r29.2.2))), (13, .c (.s (.u8 r35.1))), (14, .c (.wh 3)), (15, .c (.s (.er 31 .i64 r35.2.2))), (57, .c (.s (.b true)))], [], [⟨.blk, 34, 1, 6, .c [.s (.k .i64 l0_0), .s (.k .i64 l0_1), .s (.k .i64 l0_2), .s (.k .i64 l0_3), .s (.k .i64 l0_4), .s (.k .i64 l0_5)]⟩, ⟨.blk, 34, 1, 6, .c [.s (.k .i64 l1_0), .s (.k .i64 l1_1), .s (.k .i64 l1_2), .s (.k .i64 l1_3), .s (.k .i64 l1_4), .s (.k .i64 l1_5)]⟩, ⟨.row, 5, 1, r29.2.1.length, .b r29.2.1⟩, ⟨.row, 5, 1, r35.2.1.length, .b r35.2.1⟩]⟩) (by kernel_rfl) (allP_cons.2 ⟨g6, allP_nil⟩) ?_
      refine W_cond (b := true) (by kernel_rfl) (fun _ => ?_) (fun hb => by cases hb)
      refine W_seq ?_
      rcases Bool.eq_false_or_eq_true r16 with g7 | g7
      · replace h := bif_t h g7
        rcases Bool.eq_false_or_eq_true (((r19.2).isNone) == ((r29.2.2).isNone)) with g8 | g8
        · replace h := bif_t h g8
          rcases Bool.eq_false_or_eq_true (((r24.2).isNone) == ((r35.2.2).isNone)) with g9 | g9
          · replace h := bif_t h g9
            rcases Bool.eq_false_or_eq_true (r19.1 != r24.1) with g10 | g10
            · replace h := bif_t h g10
              refine W_regD hT ftL_nil (by kernel_rfl) 31 [(1, true), (8, true), (15, true), (19, true)] [(73, false), (85, false), (88, false)] [] [4] [] (s' := ⟨[(4, .c (.s (.b true)))], [], []⟩) (by kernel_rfl) (by kernel_rfl) (allP_cons.2 ⟨g7, (allP_cons.2 ⟨g8, (allP_cons.2 ⟨g9, (allP_cons.2 ⟨g10, allP_nil⟩)⟩)⟩)⟩) ?_
              refine W_co [] [4] [] (s' := (lLater_R true)) (by kernel_rfl) (W_ret ?_)
              exact ⟨.inl rfl, by cases h; rfl⟩
            · replace h := bif_f h g10
              rcases Bool.eq_false_or_eq_true (!((r19.2).isNone)) with g11 | g11
              · replace h := bif_t h g11
                refine W_regD hT ftL_nil (by kernel_rfl) 31 [(1, true), (8, true), (15, true), (19, false), (23, true)] [(73, false), (85, false), (88, false)] [] [4] [] (s' := ⟨[(4, .c (.s (.b true)))], [], []⟩) (by kernel_rfl) (by kernel_rfl) (allP_cons.2 ⟨g7, (allP_cons.2 ⟨g8, (allP_cons.2 ⟨g9, (allP_cons.2 ⟨g10, (allP_cons.2 ⟨g11, allP_nil⟩)⟩)⟩)⟩)⟩) ?_
                refine W_co [] [4] [] (s' := (lLater_R true)) (by kernel_rfl) (W_ret ?_)
                exact ⟨.inl rfl, by cases h; rfl⟩
              · replace h := bif_f h g11
                rcases Bool.eq_false_or_eq_true (!((r24.2).isNone)) with g12 | g12
                · replace h := bif_t h g12
                  refine W_regD hT ftL_nil (by kernel_rfl) 31 [(1, true), (8, true), (15, true), (19, false), (23, false), (27, true)] [(73, false), (85, false), (88, false)] [] [4] [] (s' := ⟨[(4, .c (.s (.b true)))], [], []⟩) (by kernel_rfl) (by kernel_rfl) (allP_cons.2 ⟨g7, (allP_cons.2 ⟨g8, (allP_cons.2 ⟨g9, (allP_cons.2 ⟨g10, (allP_cons.2 ⟨g11, (allP_cons.2 ⟨g12, allP_nil⟩)⟩)⟩)⟩)⟩)⟩) ?_
                  refine W_co [] [4] [] (s' := (lLater_R true)) (by kernel_rfl) (W_ret ?_)
                  exact ⟨.inl rfl, by cases h; rfl⟩
                · replace h := bif_f h g12
                  refine W_regD hT ftL_nil (by kernel_rfl) 31 [(1, true), (8, true), (15, true), (19, false), (23, false), (27, false)] [(73, false), (85, false), (88, false)] [] [4] [] (s' := ⟨[(4, .c (.s (.b ((l0_0 == l1_0) && ((l0_1 == l1_1) && ((l0_2 == l1_2) && ((l0_3 == l1_3) && ((l0_4 == l1_4) && ((l0_5 == l1_5) && true)))))))))], [], []⟩) (by kernel_rfl) (by kernel_rfl) (allP_cons.2 ⟨g7, (allP_cons.2 ⟨g8, (allP_cons.2 ⟨g9, (allP_cons.2 ⟨g10, (allP_cons.2 ⟨g11, (allP_cons.2 ⟨g12, allP_nil⟩)⟩)⟩)⟩)⟩)⟩) ?_
                  refine W_co [] [4] [] (s' := (lLater_R ((l0_0 == l1_0) && ((l0_1 == l1_1) && ((l0_2 == l1_2) && ((l0_3 == l1_3) && ((l0_4 == l1_4) && ((l0_5 == l1_5) && true)))))))) (by kernel_rfl) (W_ret ?_)
                  exact ⟨.inl rfl, by cases h; rfl⟩
          · replace h := bif_f h g9
            refine W_regD hT ftL_nil (by kernel_rfl) 31 [(1, true), (8, true), (15, false)] [(73, false), (85, false), (88, false)] [] [4] [] (s' := ⟨[(4, .c (.s (.b false)))], [], []⟩) (by kernel_rfl) (by kernel_rfl) (allP_cons.2 ⟨g7, (allP_cons.2 ⟨g8, (allP_cons.2 ⟨g9, allP_nil⟩)⟩)⟩) ?_
            refine W_co [] [4] [] (s' := (lLater_R false)) (by kernel_rfl) (W_ret ?_)
            exact ⟨.inl rfl, by cases h; rfl⟩
        · replace h := bif_f h g8
          refine W_regD hT ftL_nil (by kernel_rfl) 31 [(1, true), (8, false)] [(73, false), (85, false), (88, false)] [] [4] [] (s' := ⟨[(4, .c (.s (.b false)))], [], []⟩) (by kernel_rfl) (by kernel_rfl) (allP_cons.2 ⟨g7, (allP_cons.2 ⟨g8, allP_nil⟩)⟩) ?_
          refine W_co [] [4] [] (s' := (lLater_R false)) (by kernel_rfl) (W_ret ?_)
          exact ⟨.inl rfl, by cases h; rfl⟩
      · replace h := bif_f h g7
        refine W_regD hT ftL_nil (by kernel_rfl) 31 [(1, false)] [(73, false), (85, false), (88, false)] [] [4] [] (s' := ⟨[(4, .c (.s (.b false)))], [], []⟩) (by kernel_rfl) (by kernel_rfl) (allP_cons.2 ⟨g7, allP_nil⟩) ?_
        refine W_co [] [4] [] (s' := (lLater_R false)) (by kernel_rfl) (W_ret ?_)
        exact ⟨.inl rfl, by cases h; rfl⟩
    · replace h := bif_f h g6
      rcases Bool.eq_false_or_eq_true (!((r24.2).isNone)) with g13 | g13
      · replace h := bif_t h g13
        refine W_reg hT ftL_nil [(2, false), (6, true)] [] [2, 3, 5, 6, 7, 8, 9, 10, 11, 12, 13, 14, 15, 57] [0, 1, 2, 3] (s' := ⟨[(2, .c (.pt 0 0)), (3, .c (.pt 1 0)), (5, .c (.s (.b r16))), (6, .c (.s (.k .i64 r19.1))), (7, .c (.s (.er 31 .i64 r19.2))), (8, .c (.s (.k .i64 r24.1))), (9, .c (.s (.er 31 .i64 r24.2))), (10, .c (.s (.u8 r29.1))), (11, .c (.wh 2)), (12, .c (.s (.er 31 .i64 r29.2.2))), (13, .c (.s (.u8 r35.1))), (14, .c (.wh 3)), (15, .c (.s (.er 31 .i64 r35.2.2))), (57, .c (.s (.b true)))], [], [⟨.blk, 34, 1, 6, .c [.s (.k .i64 l0_0), .s (.k .i64 l0_1), .s (.k .i64 l0_2), .s (.k .i64 l0_3), .s (.k .i64 l0_4), .s (.k .i64 l0_5)]⟩, ⟨.blk, 34, 1, 6, .c [.s (.k .i64 l1_0), .s (.k .i64 l1_1), .s (.k .i64 l1_2), .s (.k .i64 l1_3), .s (.k .i64 l1_4), .s (.k .i64 l1_5)]⟩, ⟨.row, 5, 1, r29.2.1.length, .b r29.2.1⟩, ⟨.row, 5, 1, r35.2.1.length, .b r35.2.1⟩]⟩) (by kernel_rfl) (allP_cons.2 ⟨g6, (allP_cons.2 ⟨g13, allP_nil⟩)⟩) ?_
        refine W_cond (b := true) (by kernel_rfl) (fun _ => ?_) (fun hb => by cases hb)
        refine W_seq ?_
        rcases Bool.eq_false_or_eq_true r16 with g14 | g14
        · replace h := bif_t h g14
          rcases Bool.eq_false_or_eq_true (((r19.2).isNone) == ((r29.2.2).isNone)) with g15 | g15
          · replace h := bif_t h g15
            rcases Bool.eq_false_or_eq_true (((r24.2).isNone) == ((r35.2.2).isNone)) with g16 | g16
            · replace h := bif_t h g16
              rcases Bool.eq_false_or_eq_true (r19.1 != r24.1) with g17 | g17
              · replace h := bif_t h g17
                refine W_regD hT ftL_nil (by kernel_rfl) 31 [(1, true), (8, true), (15, true), (19, true)] [(73, false), (85, false), (88, false)] [] [4] [] (s' := ⟨[(4, .c (.s (.b true)))], [], []⟩) (by kernel_rfl) (by kernel_rfl) (allP_cons.2 ⟨g14, (allP_cons.2 ⟨g15, (allP_cons.2 ⟨g16, (allP_cons.2 ⟨g17, allP_nil⟩)⟩)⟩)⟩) ?_
                refine W_co [] [4] [] (s' := (lLater_R true)) (by kernel_rfl) (W_ret ?_)
                exact ⟨.inl rfl, by cases h; rfl⟩
              · replace h := bif_f h g17
                rcases Bool.eq_false_or_eq_true (!((r19.2).isNone)) with g18 | g18
                · replace h := bif_t h g18
                  refine W_regD hT ftL_nil (by kernel_rfl) 31 [(1, true), (8, true), (15, true), (19, false), (23, true)] [(73, false), (85, false), (88, false)] [] [4] [] (s' := ⟨[(4, .c (.s (.b true)))], [], []⟩) (by kernel_rfl) (by kernel_rfl) (allP_cons.2 ⟨g14, (allP_cons.2 ⟨g15, (allP_cons.2 ⟨g16, (allP_cons.2 ⟨g17, (allP_cons.2 ⟨g18, allP_nil⟩)⟩)⟩)⟩)⟩) ?_
                  refine W_co [] [4] [] (s' := (lLater_R true)) (by kernel_rfl) (W_ret ?_)
                  exact ⟨.inl rfl, by cases h; rfl⟩
                · replace h := bif_f h g18
                  rcases Bool.eq_false_or_eq_true (!((r24.2).isNone)) with g19 | g19
                  · replace h := bif_t h g19
                    refine W_regD hT ftL_nil (by kernel_rfl) 31 [(1, true), (8, true), (15, true), (19, false), (23, false), (27, true)] [(73, false), (85, false), (88, false)] [] [4] [] (s' := ⟨[(4, .c (.s (.b true)))], [], []⟩) (by kernel_rfl) (by kernel_rfl) (allP_cons.2 ⟨g14, (allP_cons.2 ⟨g15, (allP_cons.2 ⟨g16, (allP_cons.2 ⟨g17, (allP_cons.2 ⟨g18, (allP_cons.2 ⟨g19, allP_nil⟩)⟩)⟩)⟩)⟩)⟩) ?_
                    refine W_co [] [4] [] (s' := (lLater_R true)) (by kernel_rfl) (W_ret ?_)
                    exact ⟨.inl rfl, by cases h; rfl⟩
                  · replace h := bif_f h g19
                    refine W_regD hT ftL_nil (by kernel_rfl) 31 [(1, true), (8, true), (15, true), (19, false), (23, false), (27, false)] [(73, false), (85, false), (88, false)] [] [4] [] (s' := ⟨[(4, .c (.s (.b ((l0_0 == l1_0) && ((l0_1 == l1_1) && ((l0_2 == l1_2) && ((l0_3 == l1_3) && ((l0_4 == l1_4) && ((l0_5 == l1_5) && true)))))))))], [], []⟩) (by kernel_rfl) (by kernel_rfl) (allP_cons.2 ⟨g14, (allP_cons.2 ⟨g15, (allP_cons.2 ⟨g16, (allP_cons.2 ⟨g17, (allP_cons.2 ⟨g18, (allP_cons.2 ⟨g19, allP_nil⟩)⟩)⟩)⟩)⟩)⟩) ?_
                    refine W_co [] [4] [] (s' := (lLater_R ((l0_0 == l1_0) && ((l0_1 == l1_1) && ((l0_2 == l1_2) && ((l0_3 == l1_3) && ((l0_4 == l1_4) && ((l0_5 == l1_5) && true)))))))) (by kernel_rfl) (W_ret ?_)
                    exact ⟨.inl rfl, by cases h; rfl⟩
            · replace h := bif_f h g16
              refine W_regD hT ftL_nil (by kernel_rfl) 31 [(1, true), (8, true), (15, false)] [(73, false), (85, false), (88, false)] [] [4] [] (s' := ⟨[(4, .c (.s (.b false)))], [], []⟩) (by kernel_rfl) (by kernel_rfl) (allP_cons.2 ⟨g14, (allP_cons.2 ⟨g15, (allP_cons.2 ⟨g16, allP_nil⟩)⟩)⟩) ?_
              refine W_co [] [4] [] (s' := (lLater_R false)) (by kernel_rfl) (W_ret ?_)
              exact ⟨.inl rfl, by cases h; rfl⟩
          · replace h := bif_f h g15
            refine W_regD hT ftL_nil (by kernel_rfl) 31 [(1, true), (8, false)] [(73, false), (85, false), (88, false)] [] [4] [] (s' := ⟨[(4, .c (.s (.b false)))], [], []⟩) (by kernel_rfl) (by kernel_rfl) (allP_cons.2 ⟨g14, (allP_cons.2 ⟨g15, allP_nil⟩)⟩) ?_
            refine W_co [] [4] [] (s' := (lLater_R false)) (by kernel_rfl) (W_ret ?_)
            exact ⟨.inl rfl, by cases h; rfl⟩
        · replace h := bif_f h g14
          refine W_regD hT ftL_nil (by kernel_rfl) 31 [(1, false)] [(73, false), (85, false), (88, false)] [] [4] [] (s' := ⟨[(4, .c (.s (.b false)))], [], []⟩) (by kernel_rfl) (by kernel_rfl) (allP_cons.2 ⟨g14, allP_nil⟩) ?_
          refine W_co [] [4] [] (s' := (lLater_R false)) (by kernel_rfl) (W_ret ?_)
          exact ⟨.inl rfl, by cases h; rfl⟩
      · replace h := bif_f h g13
        rcases Bool.eq_false_or_eq_true (!((r29.2.2).isNone)) with g20 | g20
        · replace h := bif_t h g20
          refine W_reg hT ftL_nil [(2, false), (6, false), (10, true)] [] [2, 3, 5, 6, 7, 8, 9, 10, 11, 12, 13, 14, 15, 57] [0, 1, 2, 3] (s' := ⟨[(2, .c (.pt 0 0)), (3, .c (.pt 1 0)), (5, .c (.s (.b r16))), (6, .c (.s (.k .i64 r19.1))), (7, .c (.s (.er 31 .i64 r19.2))), (8, .c (.s (.k .i64 r24.1))), (9, .c (.s (.er 31 .i64 r24.2))), (10, .c (.s (.u8 r29.1))), (11, .c (.wh 2)), (12, .c (.s (.er 31 .i64 r29.2.2))), (13, .c (.s (.u8 r35.1))), (14, .c (.wh 3)), (15, .c (.s (.er 31 .i64 r35.2.2))), (57, .c (.s (.b true)))], [], [⟨.blk, 34, 1, 6, .c [.s (.k .i64 l0_0), .s (.k .i64 l0_1), .s (.k .i64 l0_2), .s (.k .i64 l0_3), .s (.k .i64 l0_4), .s (.k .i64 l0_5)]⟩, ⟨.blk, 34, 1, 6, .c [.s (.k .i64 l1_0), .s (.k .i64 l1_1), .s (.k .i64 l1_2), .s (.k .i64 l1_3), .s (.k .i64 l1_4), .s (.k .i64 l1_5)]⟩, ⟨.row, 5, 1, r29.2.1.length, .b r29.2.1⟩, ⟨.row, 5, 1, r35.2.1.length, .b r35.2.1⟩]⟩) (by kernel_rfl) (allP_cons.2 ⟨g6, (allP_cons.2 ⟨g13, (allP_cons.2 ⟨g20, allP_nil⟩)⟩)⟩) ?_
          refine W_cond (b := true) (by kernel_rfl) (fun _ => ?_) (fun hb => by cases hb)
          refine W_seq ?_
          rcases Bool.eq_false_or_eq_true r16 with g21 | g21
          · replace h := bif_t h g21
            rcases Bool.eq_false_or_eq_true (((r19.2).isNone) == ((r29.2.2).isNone)) with g22 | g22
            · replace h := bif_t h g22
              rcases Bool.eq_false_or_eq_true (((r24.2).isNone) == ((r35.2.2).isNone)) with g23 | g23
              · replace h := bif_t h g23
                rcases Bool.eq_false_or_eq_true (r19.1 != r24.1) with g24 | g24
                · replace h := bif_t h g24
                  refine W_regD hT ftL_nil (by kernel_rfl) 31 [(1, true), (8, true), (15, true), (19, true)] [(73, false), (85, false), (88, false)] [] [4] [] (s' := ⟨[(4, .c (.s (.b true)))], [], []⟩) (by kernel_rfl) (by kernel_rfl) (allP_cons.2 ⟨g21, (allP_cons.2 ⟨g22, (allP_cons.2 ⟨g23, (allP_cons.2 ⟨g24, allP_nil⟩)⟩)⟩)⟩) ?_
                  refine W_co [] [4] [] (s' := (lLater_R true)) (by kernel_rfl) (W_ret ?_)
                  exact ⟨.inl rfl, by cases h; rfl⟩
                · replace h := bif_f h g24
                  rcases Bool.eq_false_or_eq_true (!((r19.2).isNone)) with g25 | g25
                  · replace h := bif_t h g25
                    refine W_regD hT ftL_nil (by kernel_rfl) 31 [(1, true), (8, true), (15, true), (19, false), (23, true)] [(73, false), (85, false), (88, false)] [] [4] [] (s' := ⟨[(4, .c (.s (.b true)))], [], []⟩) (by kernel_rfl) (by kernel_rfl) (allP_cons.2 ⟨g21, (allP_cons.2 ⟨g22, (allP_cons.2 ⟨g23, (allP_cons.2 ⟨g24, (allP_cons.2 ⟨g25, allP_nil⟩)⟩)⟩)⟩)⟩) ?_
                    refine W_co [] [4] [] (s' := (lLater_R true)) (by kernel_rfl) (W_ret ?_)
                    exact ⟨.inl rfl, by cases h; rfl⟩
                  · replace h := bif_f h g25
                    rcases Bool.eq_false_or_eq_true (!((r24.2).isNone)) with g26 | g26
                    · replace h := bif_t h g26
                      refine W_regD hT ftL_nil (by kernel_rfl) 31 [(1, true), (8, true), (15, true), (19, false), (23, false), (27, true)] [(73, false), (85, false), (88, false)] [] [4] [] (s' := ⟨[(4, .c (.s (.b true)))], [], []⟩) (by kernel_rfl) (by kernel_rfl) (allP_cons.2 ⟨g21, (allP_cons.2 ⟨g22, (allP_cons.2 ⟨g23, (allP_cons.2 ⟨g24, (allP_cons.2 ⟨g25, (allP_cons.2 ⟨g26, allP_nil⟩)⟩)⟩)⟩)⟩)⟩) ?_
                      refine W_co [] [4] [] (s' := (lLater_R true)) (by kernel_rfl) (W_ret ?_)
                      exact ⟨.inl rfl, by cases h; rfl⟩
                    · replace h := bif_f h g26
                      refine W_regD hT ftL_nil (by kernel_rfl) 31 [(1, true), (8, true), (15, true), (19, false), (23, false), (27, false)] [(73, false), (85, false), (88, false)] [] [4] [] (s' := ⟨[(4, .c (.s (.b ((l0_0 == l1_0) && ((l0_1 == l1_1) && ((l0_2 == l1_2) && ((l0_3 == l1_3) && ((l0_4 == l1_4) && ((l0_5 == l1_5) && true)))))))))], [], []⟩) (by kernel_rfl) (by kernel_rfl) (allP_cons.2 ⟨g21, (allP_cons.2 ⟨g22, (allP_cons.2 ⟨g23, (allP_cons.2 ⟨g24, (allP_cons.2 ⟨g25, (allP_cons.2 ⟨g26, allP_nil⟩)⟩)⟩)⟩)⟩)⟩) ?_
                      refine W_co [] [4] [] (s' := (lLater_R ((l0_0 == l1_0) && ((l0_1 == l1_1) && ((l0_2 == l1_2) && ((l0_3 == l1_3) && ((l0_4 == l1_4) && ((l0_5 == l1_5) && true)))))))) (by kernel_rfl) (W_ret ?_)
                      exact ⟨.inl rfl, by cases h; rfl⟩
              · replace h := bif_f h g23
                refine W_regD hT ftL_nil (by kernel_rfl) 31 [(1, true), (8, true), (15, false)] [(73, false), (85, false), (88, false)] [] [4] [] (s' := ⟨[(4, .c (.s (.b false)))], [], []⟩) (by kernel_rfl) (by kernel_rfl) (allP_cons.2 ⟨g21, (allP_cons.2 ⟨g22, (allP_cons.2 ⟨g23, allP_nil⟩)⟩)⟩) ?_
                refine W_co [] [4] [] (s' := (lLater_R false)) (by kernel_rfl) (W_ret ?_)
                exact ⟨.inl rfl, by cases h; rfl⟩
            · replace h := bif_f h g22
              refine W_regD hT ftL_nil (by kernel_rfl) 31 [(1, true), (8, false)] [(73, false), (85, false), (88, false)] [] [4] [] (s' := ⟨[(4, .c (.s (.b false)))], [], []⟩) (by kernel_rfl) (by kernel_rfl) (allP_cons.2 ⟨g21, (allP_cons.2 ⟨g22, allP_nil⟩)⟩) ?_
              refine W_co [] [4] [] (s' := (lLater_R false)) (by kernel_rfl) (W_ret ?_)
              exact ⟨.inl rfl, by cases h; rfl⟩
          · replace h := bif_f h g21
            refine W_regD hT ftL_nil (by kernel_rfl) 31 [(1, false)] [(73, false), (85, false), (88, false)] [] [4] [] (s' := ⟨[(4, .c (.s (.b false)))], [], []⟩) (by kernel_rfl) (by kernel_rfl) (allP_cons.2 ⟨g21, allP_nil⟩) ?_
            refine W_co [] [4] [] (s' := (lLater_R false)) (by kernel_rfl) (W_ret ?_)
            exact ⟨.inl rfl, by cases h; rfl⟩
        · replace h := bif_f h g20
          rcases Bool.eq_false_or_eq_true (!((r35.2.2).isNone)) with g27 | g27
          · replace h := bif_t h g27
            refine W_reg hT ftL_nil [(2, false), (6, false), (10, false), (14, true)] [] [2, 3, 5, 6, 7, 8, 9, 10, 11, 12, 13, 14, 15, 57] [0, 1, 2, 3] (s' := ⟨[(2, .c (.pt 0 0)), (3, .c (.pt 1 0)), (5, .c (.s (.b r16))), (6, .c (.s (.k .i64 r19.1))), (7, .c (.s (.er 31 .i64 r19.2))), (8, .c (.s (.k .i64 r24.1))), (9, .c (.s (.er 31 .i64 r24.2))), (10, .c (.s (.u8 r29.1))), (11, .c (.wh 2)), (12, .c (.s (.er 31 .i64 r29.2.2))), (13, .c (.s (.u8 r35.1))), (14, .c (.wh 3)), (15, .c (.s (.er 31 .i64 r35.2.2))), (57, .c (.s (.b true)))], [], [⟨.blk, 34, 1, 6, .c [.s (.k .i64 l0_0), .s (.k .i64 l0_1), .s (.k .i64 l0_2), .s (.k .i64 l0_3), .s (.k .i64 l0_4), .s (.k .i64 l0_5)]⟩, ⟨.blk, 34, 1, 6, .c [.s (.k .i64 l1_0), .s (.k .i64 l1_1), .s (.k .i64 l1_2), .s (.k .i64 l1_3), .s (.k .i64 l1_4), .s (.k .i64 l1_5)]⟩, ⟨.row, 5, 1, r29.2.1.length, .b r29.2.1⟩, ⟨.row, 5, 1, r35.2.1.length, .b r35.2.1⟩]⟩) (by kernel_rfl) (allP_cons.2 ⟨g6, (allP_cons.2 ⟨g13, (allP_cons.2 ⟨g20, (allP_cons.2 ⟨g27, allP_nil⟩)⟩)⟩)⟩) ?_
            refine W_cond (b := true) (by kernel_rfl) (fun _ => ?_) (fun hb => by cases hb)
            refine W_seq ?_
            rcases Bool.eq_false_or_eq_true r16 with g28 | g28
            · replace h := bif_t h g28
              rcases Bool.eq_false_or_eq_true (((r19.2).isNone) == ((r29.2.2).isNone)) with g29 | g29
              · replace h := bif_t h g29
                rcases Bool.eq_false_or_eq_true (((r24.2).isNone) == ((r35.2.2).isNone)) with g30 | g30
                · replace h := bif_t h g30
                  rcases Bool.eq_false_or_eq_true (r19.1 != r24.1) with g31 | g31
                  · replace h := bif_t h g31
                    refine W_regD hT ftL_nil (by kernel_rfl) 31 [(1, true), (8, true), (15, true), (19, true)] [(73, false), (85, false), (88, false)] [] [4] [] (s' := ⟨[(4, .c (.s (.b true)))], [], []⟩) (by kernel_rfl) (by kernel_rfl) (allP_cons.2 ⟨g28, (allP_cons.2 ⟨g29, (allP_cons.2 ⟨g30, (allP_cons.2 ⟨g31, allP_nil⟩)⟩)⟩)⟩) ?_
                    refine W_co [] [4] [] (s' := (lLater_R true)) (by kernel_rfl) (W_ret ?_)
                    exact ⟨.inl rfl, by cases h; rfl⟩
                  · replace h := bif_f h g31
                    rcases Bool.eq_false_or_eq_true (!((r19.2).isNone)) with g32 | g32
                    · replace h := bif_t h g32
                      refine W_regD hT ftL_nil (by kernel_rfl) 31 [(1, true), (8, true), (15, true), (19, false), (23, true)] [(73, false), (85, false), (88, false)] [] [4] [] (s' := ⟨[(4, .c (.s (.b true)))], [], []⟩) (by kernel_rfl) (by kernel_rfl) (allP_cons.2 ⟨g28, (allP_cons.2 ⟨g29, (allP_cons.2 ⟨g30, (allP_cons.2 ⟨g31, (allP_cons.2 ⟨g32, allP_nil⟩)⟩)⟩)⟩)⟩) ?_
                      refine W_co [] [4] [] (s' := (lLater_R true)) (by kernel_rfl) (W_ret ?_)
                      exact ⟨.inl rfl, by cases h; rfl⟩
                    · replace h := bif_f h g32
                      rcases Bool.eq_false_or_eq_true (!((r24.2).isNone)) with g33 | g33
                      · replace h := bif_t h g33
                        refine W_regD hT ftL_nil (by kernel_rfl) 31 [(1, true), (8, true), (15, true), (19, false), (23, false), (27, true)] [(73, false), (85, false), (88, false)] [] [4] [] (s' := ⟨[(4, .c (.s (.b true)))], [], []⟩) (by kernel_rfl) (by kernel_rfl) (allP_cons.2 ⟨g28, (allP_cons.2 ⟨g29, (allP_cons.2 ⟨g30, (allP_cons.2 ⟨g31, (allP_cons.2 ⟨g32, (allP_cons.2 ⟨g33, allP_nil⟩)⟩)⟩)⟩)⟩)⟩) ?_
                        refine W_co [] [4] [] (s' := (lLater_R true)) (by kernel_rfl) (W_ret ?_)
                        exact ⟨.inl rfl, by cases h; rfl⟩
                      · replace h := bif_f h g33
                        refine W_regD hT ftL_nil (by kernel_rfl) 31 [(1, true), (8, true), (15, true), (19, false), (23, false), (27, false)] [(73, false), (85, false), (88, false)] [] [4] [] (s' := ⟨[(4, .c (.s (.b ((l0_0 == l1_0) && ((l0_1 == l1_1) && ((l0_2 == l1_2) && ((l0_3 == l1_3) && ((l0_4 == l1_4) && ((l0_5 == l1_5) && true)))))))))], [], []⟩) (by kernel_rfl) (by kernel_rfl) (allP_cons.2 ⟨g28, (allP_cons.2 ⟨g29, (allP_cons.2 ⟨g30, (allP_cons.2 ⟨g31, (allP_cons.2 ⟨g32, (allP_cons.2 ⟨g33, allP_nil⟩)⟩)⟩)⟩)⟩)⟩) ?_
                        refine W_co [] [4] [] (s' := (lLater_R ((l0_0 == l1_0) && ((l0_1 == l1_1) && ((l0_2 == l1_2) && ((l0_3 == l1_3) && ((l0_4 == l1_4) && ((l0_5 == l1_5) && true)))))))) (by kernel_rfl) (W_ret ?_)
                        exact ⟨.inl rfl, by cases h; rfl⟩
                · replace h := bif_f h g30
                  refine W_regD hT ftL_nil (by kernel_rfl) 31 [(1, true), (8, true), (15, false)] [(73, false), (85, false), (88, false)] [] [4] [] (s' := ⟨[(4, .c (.s (.b false)))], [], []⟩) (by kernel_rfl) (by kernel_rfl) (allP_cons.2 ⟨g28, (allP_cons.2 ⟨g29, (allP_cons.2 ⟨g30, allP_nil⟩)⟩)⟩) ?_
                  refine W_co [] [4] [] (s' := (lLater_R false)) (by kernel_rfl) (W_ret ?_)
                  exact ⟨.inl rfl, by cases h; rfl⟩
              · replace h := bif_f h g29
                refine W_regD hT ftL_nil (by kernel_rfl) 31 [(1, true), (8, false)] [(73, false), (85, false), (88, false)] [] [4] [] (s' := ⟨[(4, .c (.s (.b false)))], [], []⟩) (by kernel_rfl) (by kernel_rfl) (allP_cons.2 ⟨g28, (allP_cons.2 ⟨g29, allP_nil⟩)⟩) ?_
                refine W_co [] [4] [] (s' := (lLater_R false)) (by kernel_rfl) (W_ret ?_)
                exact ⟨.inl rfl, by cases h; rfl⟩
            · replace h := bif_f h g28
              refine W_regD hT ftL_nil (by kernel_rfl) 31 [(1, false)] [(73, false), (85, false), (88, false)] [] [4] [] (s' := ⟨[(4, .c (.s (.b false)))], [], []⟩) (by kernel_rfl) (by kernel_rfl) (allP_cons.2 ⟨g28, allP_nil⟩) ?_
              refine W_co [] [4] [] (s' := (lLater_R false)) (by kernel_rfl) (W_ret ?_)
              exact ⟨.inl rfl, by cases h; rfl⟩
          · replace h := bif_f h g27
            refine W_reg hT ftL_nil [(2, false), (6, false), (10, false), (14, false)] [] [2, 3, 5, 6, 7, 8, 9, 10, 11, 12, 13, 14, 15, 57] [0, 1, 2, 3] (s' := ⟨[(2, .c (.pt 0 0)), (3, .c (.pt 1 0)), (5, .c (.s (.b r16))), (6, .c (.s (.k .i64 r19.1))), (7, .c (.s (.er 31 .i64 r19.2))), (8, .c (.s (.k .i64 r24.1))), (9, .c (.s (.er 31 .i64 r24.2))), (10, .c (.s (.u8 r29.1))), (11, .c (.wh 2)), (12, .c (.s (.er 31 .i64 r29.2.2))), (13, .c (.s (.u8 r35.1))), (14, .c (.wh 3)), (15, .c (.s (.er 31 .i64 r35.2.2))), (57, .c (.s (.b (decide (r24.1 ≤ r19.1)))))], [], [⟨.blk, 34, 1, 6, .c [.s (.k .i64 l0_0), .s (.k .i64 l0_1), .s (.k .i64 l0_2), .s (.k .i64 l0_3), .s (.k .i64 l0_4), .s (.k .i64 l0_5)]⟩, ⟨.blk, 34, 1, 6, .c [.s (.k .i64 l1_0), .s (.k .i64 l1_1), .s (.k .i64 l1_2), .s (.k .i64 l1_3), .s (.k .i64 l1_4), .s (.k .i64 l1_5)]⟩, ⟨.row, 5, 1, r29.2.1.length, .b r29.2.1⟩, ⟨.row, 5, 1, r35.2.1.length, .b r35.2.1⟩]⟩) (by kernel_rfl) (allP_cons.2 ⟨g6, (allP_cons.2 ⟨g13, (allP_cons.2 ⟨g20, (allP_cons.2 ⟨g27, allP_nil⟩)⟩)⟩)⟩) ?_
            refine W_cond (b := (decide (r24.1 ≤ r19.1))) (by kernel_rfl) (fun g47 => ?_) (fun g47 => ?_)
            · replace h := bif_t h g47
              refine W_seq ?_
              rcases Bool.eq_false_or_eq_true r16 with g34 | g34
              · replace h := bif_t h g34
                rcases Bool.eq_false_or_eq_true (((r19.2).isNone) == ((r29.2.2).isNone)) with g35 | g35
                · replace h := bif_t h g35
                  rcases Bool.eq_false_or_eq_true (((r24.2).isNone) == ((r35.2.2).isNone)) with g36 | g36
                  · replace h := bif_t h g36
                    rcases Bool.eq_false_or_eq_true (r19.1 != r24.1) with g37 | g37
                    · replace h := bif_t h g37
                      refine W_regD hT ftL_nil (by kernel_rfl) 31 [(1, true), (8, true), (15, true), (19, true)] [(73, false), (85, false), (88, false)] [] [4] [] (s' := ⟨[(4, .c (.s (.b true)))], [], []⟩) (by kernel_rfl) (by kernel_rfl) (allP_cons.2 ⟨g34, (allP_cons.2 ⟨g35, (allP_cons.2 ⟨g36, (allP_cons.2 ⟨g37, allP_nil⟩)⟩)⟩)⟩) ?_
                      refine W_co [] [4] [] (s' := (lLater_R true)) (by kernel_rfl) (W_ret ?_)
                      exact ⟨.inl rfl, by cases h; rfl⟩
                    · replace h := bif_f h g37
                      rcases Bool.eq_false_or_eq_true (!((r19.2).isNone)) with g38 | g38
                      · replace h := bif_t h g38
                        refine W_regD hT ftL_nil (by kernel_rfl) 31 [(1, true), (8, true), (15, true), (19, false), (23, true)] [(73, false), (85, false), (88, false)] [] [4] [] (s' := ⟨[(4, .c (.s (.b true)))], [], []⟩) (by kernel_rfl) (by kernel_rfl) (allP_cons.2 ⟨g34, (allP_cons.2 ⟨g35, (allP_cons.2 ⟨g36, (allP_cons.2 ⟨g37, (allP_cons.2 ⟨g38, allP_nil⟩)⟩)⟩)⟩)⟩) ?_
                        refine W_co [] [4] [] (s' := (lLater_R true)) (by kernel_rfl) (W_ret ?_)
                        exact ⟨.inl rfl, by cases h; rfl⟩
                      · replace h := bif_f h g38
                        rcases Bool.eq_false_or_eq_true (!((r24.2).isNone)) with g39 | g39
                        · replace h := bif_t h g39
                          refine W_regD hT ftL_nil (by kernel_rfl) 31 [(1, true), (8, true), (15, true), (19, false), (23, false), (27, true)] [(73, false), (85, false), (88, false)] [] [4] [] (s' := ⟨[(4, .c (.s (.b true)))], [], []⟩) (by kernel_rfl) (by kernel_rfl) (allP_cons.2 ⟨g34, (allP_cons.2 ⟨g35, (allP_cons.2 ⟨g36, (allP_cons.2 ⟨g37, (allP_cons.2 ⟨g38, (allP_cons.2 ⟨g39, allP_nil⟩)⟩)⟩)⟩)⟩)⟩) ?_
                          refine W_co [] [4] [] (s' := (lLater_R true)) (by kernel_rfl) (W_ret ?_)
                          exact ⟨.inl rfl, by cases h; rfl⟩
                        · replace h := bif_f h g39
                          refine W_regD hT ftL_nil (by kernel_rfl) 31 [(1, true), (8, true), (15, true), (19, false), (23, false), (27, false)] [(73, false), (85, false), (88, false)] [] [4] [] (s' := ⟨[(4, .c (.s (.b ((l0_0 == l1_0) && ((l0_1 == l1_1) && ((l0_2 == l1_2) && ((l0_3 == l1_3) && ((l0_4 == l1_4) && ((l0_5 == l1_5) && true)))))))))], [], []⟩) (by kernel_rfl) (by kernel_rfl) (allP_cons.2 ⟨g34, (allP_cons.2 ⟨g35, (allP_cons.2 ⟨g36, (allP_cons.2 ⟨g37, (allP_cons.2 ⟨g38, (allP_cons.2 ⟨g39, allP_nil⟩)⟩)⟩)⟩)⟩)⟩) ?_
                          refine W_co [] [4] [] (s' := (lLater_R ((l0_0 == l1_0) && ((l0_1 == l1_1) && ((l0_2 == l1_2) && ((l0_3 == l1_3) && ((l0_4 == l1_4) && ((l0_5 == l1_5) && true)))))))) (by kernel_rfl) (W_ret ?_)
                          exact ⟨.inl rfl, by cases h; rfl⟩
                  · replace h := bif_f h g36
                    refine W_regD hT ftL_nil (by kernel_rfl) 31 [(1, true), (8, true), (15, false)] [(73, false), (85, false), (88, false)] [] [4] [] (s' := ⟨[(4, .c (.s (.b false)))], [], []⟩) (by kernel_rfl) (by kernel_rfl) (allP_cons.2 ⟨g34, (allP_cons.2 ⟨g35, (allP_cons.2 ⟨g36, allP_nil⟩)⟩)⟩) ?_
                    refine W_co [] [4] [] (s' := (lLater_R false)) (by kernel_rfl) (W_ret ?_)
                    exact ⟨.inl rfl, by cases h; rfl⟩
                · replace h := bif_f h g35
                  refine W_regD hT ftL_nil (by kernel_rfl) 31 [(1, true), (8, false)] [(73, false), (85, false), (88, false)] [] [4] [] (s' := ⟨[(4, .c (.s (.b false)))], [], []⟩) (by kernel_rfl) (by kernel_rfl) (allP_cons.2 ⟨g34, (allP_cons.2 ⟨g35, allP_nil⟩)⟩) ?_
                  refine W_co [] [4] [] (s' := (lLater_R false)) (by kernel_rfl) (W_ret ?_)
                  exact ⟨.inl rfl, by cases h; rfl⟩
              · replace h := bif_f h g34
                refine W_regD hT ftL_nil (by kernel_rfl) 31 [(1, false)] [(73, false), (85, false), (88, false)] [] [4] [] (s' := ⟨[(4, .c (.s (.b false)))], [], []⟩) (by kernel_rfl) (by kernel_rfl) (allP_cons.2 ⟨g34, allP_nil⟩) ?_
                refine W_co [] [4] [] (s' := (lLater_R false)) (by kernel_rfl) (W_ret ?_)
                exact ⟨.inl rfl, by cases h; rfl⟩
            · replace h := bif_f h g47
              refine W_co [] [2, 3, 5, 10, 11, 13, 14] [0, 1, 2, 3] (s' := ⟨[(2, .c (.pt 0 0)), (3, .c (.pt 1 0)), (5, .c (.s (.b r16))), (10, .c (.s (.u8 r29.1))), (11, .c (.wh 2)), (13, .c (.s (.u8 r35.1))), (14, .c (.wh 3))], [], [⟨.blk, 34, 1, 6, .c [.s (.k .i64 l0_0), .s (.k .i64 l0_1), .s (.k .i64 l0_2), .s (.k .i64 l0_3), .s (.k .i64 l0_4), .s (.k .i64 l0_5)]⟩, ⟨.blk, 34, 1, 6, .c [.s (.k .i64 l1_0), .s (.k .i64 l1_1), .s (.k .i64 l1_2), .s (.k .i64 l1_3), .s (.k .i64 l1_4), .s (.k .i64 l1_5)]⟩, ⟨.row, 5, 1, r29.2.1.length, .b r29.2.1⟩, ⟨.row, 5, 1, r35.2.1.length, .b r35.2.1⟩]⟩) (by kernel_rfl) (W_skip ?_)
              refine W_seq ?_
              refine W_seq ?_
              rcases Bool.eq_false_or_eq_true (r29.1 != r35.1) with g40 | g40
              · replace h := bif_t h g40
                refine W_reg hT ftL_nil [(3, true)] [] [5, 11, 14, 107] [2, 3] (s' := ⟨[(5, .c (.s (.b r16))), (11, .c (.wh 0)), (14, .c (.wh 1)), (107, .c (.s (.b true)))], [], [⟨.row, 5, 1, r29.2.1.length, .b r29.2.1⟩, ⟨.row, 5, 1, r35.2.1.length, .b r35.2.1⟩]⟩) (by kernel_rfl) (allP_cons.2 ⟨g40, allP_nil⟩) ?_
                refine W_cond (b := true) (by kernel_rfl) (fun _ => ?_) (fun hb => by cases hb)
                refine W_seq ?_
                refine W_reg hT ftL_nil [] [] [4] [] (s' := ⟨[(4, .c (.s (.b r16)))], [], []⟩) (by kernel_rfl) allP_nil ?_
                refine W_co [] [4] [] (s' := (lLater_R r16)) (by kernel_rfl) (W_ret ?_)
                exact ⟨.inl rfl, by cases h; rfl⟩
              · replace h := bif_f h g40
                rcases Bool.eq_false_or_eq_true (r29.1 == 23) with g41 | g41
                · replace h := bif_t h g41
                  rcases Bool.eq_false_or_eq_true (decide (l0_0 < (2000 : Int))) with g42 | g42
                  · replace h := bif_t h g42
                    refine W_reg hT ftL_nil [(3, false), (6, true), (11, true)] [] [5, 11, 14, 107] [2, 3] (s' := ⟨[(5, .c (.s (.b r16))), (11, .c (.wh 0)), (14, .c (.wh 1)), (107, .c (.s (.b (decide ((2000 : Int) ≤ l1_0)))))], [], [⟨.row, 5, 1, r29.2.1.length, .b r29.2.1⟩, ⟨.row, 5, 1, r35.2.1.length, .b r35.2.1⟩]⟩) (by kernel_rfl) (allP_cons.2 ⟨g40, (allP_cons.2 ⟨g41, (allP_cons.2 ⟨g42, allP_nil⟩)⟩)⟩) ?_
                    refine W_cond (b := (decide ((2000 : Int) ≤ l1_0))) (by kernel_rfl) (fun g44 => ?_) (fun g44 => ?_)
                    · replace h := bif_t h g44
                      refine W_seq ?_
                      refine W_reg hT ftL_nil [] [] [4] [] (s' := ⟨[(4, .c (.s (.b r16)))], [], []⟩) (by kernel_rfl) allP_nil ?_
                      refine W_co [] [4] [] (s' := (lLater_R r16)) (by kernel_rfl) (W_ret ?_)
                      exact ⟨.inl rfl, by cases h; rfl⟩
                    · replace h := bif_f h g44
                      refine W_co [] [5, 11, 14] [0, 1] (s' := ⟨[(5, .c (.s (.b r16))), (11, .c (.wh 0)), (14, .c (.wh 1))], [], [⟨.row, 5, 1, r29.2.1.length, .b r29.2.1⟩, ⟨.row, 5, 1, r35.2.1.length, .b r35.2.1⟩]⟩) (by kernel_rfl) (W_skip ?_)
                      refine W_seq ?_
                      rcases Bool.eq_false_or_eq_true r16 with g43 | g43
                      · replace h := bif_t h g43
                        refine W_reg hT ftL_nil [(1, true)] [] [4] [] (s' := ⟨[(4, .c (.s (.b (Op.bytesLess r29.2.1 r35.2.1))))], [], []⟩) (by kernel_rfl) (allP_cons.2 ⟨g43, allP_nil⟩) ?_
                        refine W_co [] [4] [] (s' := (lLater_R (Op.bytesLess r29.2.1 r35.2.1))) (by kernel_rfl) (W_ret ?_)
                        exact ⟨.inl rfl, by cases h; rfl⟩
                      · replace h := bif_f h g43
                        refine W_reg hT ftL_nil [(1, false)] [] [4] [] (s' := ⟨[(4, .c (.s (.b false)))], [], []⟩) (by kernel_rfl) (allP_cons.2 ⟨g43, allP_nil⟩) ?_
                        refine W_co [] [4] [] (s' := (lLater_R false)) (by kernel_rfl) (W_ret ?_)
                        exact ⟨.inl rfl, by cases h; rfl⟩
                  · replace h := bif_f h g42
                    refine W_reg hT ftL_nil [(3, false), (6, true), (11, false)] [] [5, 11, 14, 107] [2, 3] (s' := ⟨[(5, .c (.s (.b r16))), (11, .c (.wh 0)), (14, .c (.wh 1)), (107, .c (.s (.b false)))], [], [⟨.row, 5, 1, r29.2.1.length, .b r29.2.1⟩, ⟨.row, 5, 1, r35.2.1.length, .b r35.2.1⟩]⟩) (by kernel_rfl) (allP_cons.2 ⟨g40, (allP_cons.2 ⟨g41, (allP_cons.2 ⟨g42, allP_nil⟩)⟩)⟩) ?_
                    refine W_cond (b := false) (by kernel_rfl) (fun hb => by cases hb) (fun _ => ?_)
                    refine W_co [] [5, 11, 14] [0, 1] (s' := ⟨[(5, .c (.s (.b r16))), (11, .c (.wh 0)), (14, .c (.wh 1))], [], [⟨.row, 5, 1, r29.2.1.length, .b r29.2.1⟩, ⟨.row, 5, 1, r35.2.1.length, .b r35.2.1⟩]⟩) (by kernel_rfl) (W_skip ?_)
                    refine W_seq ?_
                    rcases Bool.eq_false_or_eq_true r16 with g45 | g45
                    · replace h := bif_t h g45
                      refine W_reg hT ftL_nil [(1, true)] [] [4] [] (s' := ⟨[(4, .c (.s (.b (Op.bytesLess r29.2.1 r35.2.1))))], [], []⟩) (by kernel_rfl) (allP_cons.2 ⟨g45, allP_nil⟩) ?_
                      refine W_co [] [4] [] (s' := (lLater_R (Op.bytesLess r29.2.1 r35.2.1))) (by kernel_rfl) (W_ret ?_)
                      exact ⟨.inl rfl, by cases h; rfl⟩
                    · replace h := bif_f h g45
                      refine W_reg hT ftL_nil [(1, false)] [] [4] [] (s' := ⟨[(4, .c (.s (.b false)))], [], []⟩) (by kernel_rfl) (allP_cons.2 ⟨g45, allP_nil⟩) ?_
                      refine W_co [] [4] [] (s' := (lLater_R false)) (by kernel_rfl) (W_ret ?_)
                      exact ⟨.inl rfl, by cases h; rfl⟩
                · replace h := bif_f h g41
                  refine W_reg hT ftL_nil [(3, false), (6, false)] [] [5, 11, 14, 107] [2, 3] (s' := ⟨[(5, .c (.s (.b r16))), (11, .c (.wh 0)), (14, .c (.wh 1)), (107, .c (.s (.b false)))], [], [⟨.row, 5, 1, r29.2.1.length, .b r29.2.1⟩, ⟨.row, 5, 1, r35.2.1.length, .b r35.2.1⟩]⟩) (by kernel_rfl) (allP_cons.2 ⟨g40, (allP_cons.2 ⟨g41, allP_nil⟩)⟩) ?_
                  refine W_cond (b := false) (by kernel_rfl) (fun hb => by cases hb) (fun _ => ?_)
                  refine W_co [] [5, 11, 14] [0, 1] (s' := ⟨[(5, .c (.s (.b r16))), (11, .c (.wh 0)), (14, .c (.wh 1))], [], [⟨.row, 5, 1, r29.2.1.length, .b r29.2.1⟩, ⟨.row, 5, 1, r35.2.1.length, .b r35.2.1⟩]⟩) (by kernel_rfl) (W_skip ?_)
                  refine W_seq ?_
                  rcases Bool.eq_false_or_eq_true r16 with g46 | g46
                  · replace h := bif_t h g46
                    refine W_reg hT ftL_nil [(1, true)] [] [4] [] (s' := ⟨[(4, .c (.s (.b (Op.bytesLess r29.2.1 r35.2.1))))], [], []⟩) (by kernel_rfl) (allP_cons.2 ⟨g46, allP_nil⟩) ?_
                    refine W_co [] [4] [] (s' := (lLater_R (Op.bytesLess r29.2.1 r35.2.1))) (by kernel_rfl) (W_ret ?_)
                    exact ⟨.inl rfl, by cases h; rfl⟩
                  · replace h := bif_f h g46
                    refine W_reg hT ftL_nil [(1, false)] [] [4] [] (s' := ⟨[(4, .c (.s (.b false)))], [], []⟩) (by kernel_rfl) (allP_cons.2 ⟨g46, allP_nil⟩) ?_
                    refine W_co [] [4] [] (s' := (lLater_R false)) (by kernel_rfl) (W_ret ?_)
                    exact ⟨.inl rfl, by cases h; rfl⟩
  · rintro e s' ⟨he, rfl⟩
    refine ⟨he, fun a' w' hr => ?_⟩
    exact retS_ok tabO_pl hr (rs := [.tmp 4]) rfl (objs := []) (by kernel_rfl)
end Go.Proofs.Ytliilihbnhdemaa
