import Derived.Test.YtliilihbnhdemaaSxX
import Derived.Test.YtliilihbnhdemaaProg
import Derived.Test.YtliilihbnhdemaaPr
set_option linter.unusedVariables false
set_option linter.unusedSimpArgs false
namespace Go.Proofs.Ytliilihbnhdemaa
open Go.RowKit Go.Ch Go.Sx

def tabL_pc : List (TypeId × Ti) := [(2, ⟨.int .i64, 1, 8, true, some [.int .i64]⟩),
  (3, ⟨.int .i64, 1, 8, true, some [.int .i64]⟩),
  (28, ⟨.ifc, 1, 16, true, some [.ifc]⟩),
  (31, ⟨.int .i64, 1, 8, true, some [.int .i64]⟩),
  (34, ⟨.st [(3, 0), (3, 1), (3, 2), (3, 3), (3, 4), (3, 5)], 6, 48, true, some [.int .i64, .int .i64, .int .i64, .int .i64, .int .i64, .int .i64]⟩)]
def tab_pc : Tab := fun t => (tabL_pc).lookup t
theorem tabE_pc : (tabL_pc.map fun p => tiOf Try.prog p.1) = tabL_pc.map fun p => some p.2 := by kernel_rfl
theorem tabO_pc : TabOk Try.prog tab_pc := tab_of tabE_pc

def rLeap (n : Nat) (a0 : Int) : Option (Bool) :=
  gd ((400 : Int) ≠ 0) <|
  bif ((Int.tmod a0 400) == 0) then
    some true
  else
    gd ((4 : Int) ≠ 0) <|
    bif ((Int.tmod a0 4) == 0) then
      gd ((100 : Int) ≠ 0) <|
      some ((Int.tmod a0 100) != 0)
    else
      some false
def rDays (n : Nat) (a0 : Int) (a1 : Int) : Option (Int) :=
  bif (a1 == 2) then
    (rLeap n a0).bind fun r8 =>
    bif r8 then
      some 29
    else
      some 28
  else
    bif (a1 == 4) then
      some 30
    else
      bif (a1 == 6) then
        some 30
      else
        bif (a1 == 9) then
          some 30
        else
          bif (a1 == 11) then
            some 30
          else
            some 31
def rMay8 (n : Nat) (a0_0 : Int) (a0_1 : Int) (a0_2 : Int) (a0_3 : Int) (a0_4 : Int) (a0_5 : Int) : Option (Bool) :=
  bif (decide (a0_0 < (1 : Int))) then
    some false
  else
    bif (decide ((9999 : Int) < a0_0)) then
      some false
    else
      bif (decide (a0_1 < (1 : Int))) then
        some false
      else
        bif (decide ((12 : Int) < a0_1)) then
          some false
        else
          bif (decide (a0_2 < (1 : Int))) then
            some false
          else
            bif (decide (a0_3 < (0 : Int))) then
              some false
            else
              bif (decide (a0_4 < (0 : Int))) then
                some false
              else
                bif (decide (a0_5 < (0 : Int))) then
                  some false
                else
                  (rDays n a0_0 a0_1).bind fun r47 =>
                  bif (decide (a0_2 ≤ r47)) then
                    bif (decide (a0_3 < (24 : Int))) then
                      bif (decide (a0_4 < (60 : Int))) then
                        some (decide (a0_5 < (60 : Int)))
                      else
                        some false
                    else
                      some false
                  else
                    some false
def rCount_j1 (n : Nat) (a0_0 : Int) (a0_1 : Int) (a0_2 : Int) (a0_3 : Int) (a0_4 : Int) (a0_5 : Int) (i4_1 : Int) (k_l1 : Int → Int → Option (Int)) (i3_8 : Int) : Option (Int) :=
  gd (okI .i64 (i4_1 + 1)) <|
  k_l1 i3_8 (i4_1 + 1)
def rCount_l2 (n : Nat) (a0_0 : Int) (a0_1 : Int) (a0_2 : Int) (a0_3 : Int) (a0_4 : Int) (a0_5 : Int) : Nat → Int → Int → Option (Int)
  | 0, _, _ => none
  | fu_l2 + 1, i3_9, i6_1 =>
    bif (decide (i6_1 < a0_1)) then
      (rDays n a0_0 i6_1).bind fun r30_2 =>
      gd (okI .i64 (i3_9 + r30_2)) <|
      gd (okI .i64 (i6_1 + 1)) <|
      (rCount_l2 n a0_0 a0_1 a0_2 a0_3 a0_4 a0_5 fu_l2) (i3_9 + r30_2) (i6_1 + 1)
    else
      gd (okI .i64 (i3_9 + a0_2)) <|
      gd (okI .i64 ((i3_9 + a0_2) - 1)) <|
      gd (okI .i64 (((i3_9 + a0_2) - 1) * 86400)) <|
      gd (okI .i64 (a0_3 * 3600)) <|
      gd (okI .i64 ((((i3_9 + a0_2) - 1) * 86400) + (a0_3 * 3600))) <|
      gd (okI .i64 (a0_4 * 60)) <|
      gd (okI .i64 (((((i3_9 + a0_2) - 1) * 86400) + (a0_3 * 3600)) + (a0_4 * 60))) <|
      gd (okI .i64 ((((((i3_9 + a0_2) - 1) * 86400) + (a0_3 * 3600)) + (a0_4 * 60)) + a0_5)) <|
      some ((((((i3_9 + a0_2) - 1) * 86400) + (a0_3 * 3600)) + (a0_4 * 60)) + a0_5)
def rCount_l1 (n : Nat) (a0_0 : Int) (a0_1 : Int) (a0_2 : Int) (a0_3 : Int) (a0_4 : Int) (a0_5 : Int) : Nat → Int → Int → Option (Int)
  | 0, _, _ => none
  | fu_l1 + 1, i3_6, i4_1 =>
    bif (decide (i4_1 < a0_0)) then
      gd (okI .i64 (i3_6 + 365)) <|
      (rLeap n i4_1).bind fun r16_2 =>
      bif r16_2 then
        gd (okI .i64 ((i3_6 + 365) + 1)) <|
        rCount_j1 n a0_0 a0_1 a0_2 a0_3 a0_4 a0_5 i4_1 (rCount_l1 n a0_0 a0_1 a0_2 a0_3 a0_4 a0_5 fu_l1) ((i3_6 + 365) + 1)
      else
        rCount_j1 n a0_0 a0_1 a0_2 a0_3 a0_4 a0_5 i4_1 (rCount_l1 n a0_0 a0_1 a0_2 a0_3 a0_4 a0_5 fu_l1) (i3_6 + 365)
    else
      rCount_l2 n a0_0 a0_1 a0_2 a0_3 a0_4 a0_5 n i3_6 1
def rCount (n : Nat) (a0_0 : Int) (a0_1 : Int) (a0_2 : Int) (a0_3 : Int) (a0_4 : Int) (a0_5 : Int) : Option (Int) :=
  rCount_l1 n a0_0 a0_1 a0_2 a0_3 a0_4 a0_5 n 0 1
def pAt_l1 (n : Nat) (a0 : Int) (i6_4 : Int) : Nat → Int → Int → Option (Int × Int × Int × Int × Int × Int × Option Int)
  | 0, _, _ => none
  | fu_l1 + 1, i7_1, i8_1 =>
    (pdays n i6_4 i8_1).bind fun r40_3 =>
    bif (decide (r40_3 ≤ i7_1)) then
      (pdays n i6_4 i8_1).bind fun r45_3 =>
      gd (okI .i64 (i7_1 - r45_3)) <|
      gd (okI .i64 (i8_1 + 1)) <|
      (pAt_l1 n a0 i6_4 fu_l1) (i7_1 - r45_3) (i8_1 + 1)
    else
      gd (okI .i64 (i7_1 + 1)) <|
      gd ((3600 : Int) ≠ 0) <|
      gd (okI .i64 (Int.tdiv (Int.tmod a0 86400) 3600)) <|
      gd ((60 : Int) ≠ 0) <|
      gd (okI .i64 (Int.tdiv (Int.tmod a0 86400) 60)) <|
      gd ((60 : Int) ≠ 0) <|
      gd ((60 : Int) ≠ 0) <|
      some (i6_4, i8_1, (i7_1 + 1), (Int.tdiv (Int.tmod a0 86400) 3600), (Int.tmod (Int.tdiv (Int.tmod a0 86400) 60) 60), (Int.tmod (Int.tmod a0 86400) 60), none)
def pAt_j1 (n : Nat) (a0 : Int) (i6_4 : Int) : Option (Int × Int × Int × Int × Int × Int × Option Int) :=
  (pahead n i6_4).bind fun r35_1 =>
  gd (okI .i64 ((Int.tdiv a0 86400) - r35_1)) <|
  pAt_l1 n a0 i6_4 n ((Int.tdiv a0 86400) - r35_1) 1
def pAt_l2 (n : Nat) (a0 : Int) : Nat → Int → Option (Int × Int × Int × Int × Int × Int × Option Int)
  | 0, _ => none
  | fu_l2 + 1, i6_5 =>
    gd (okI .i64 (i6_5 + 1)) <|
    (pahead n (i6_5 + 1)).bind fun r28_4 =>
    bif (decide (r28_4 ≤ (Int.tdiv a0 86400))) then
      gd (okI .i64 (i6_5 + 1)) <|
      (pAt_l2 n a0 fu_l2) (i6_5 + 1)
    else
      pAt_j1 n a0 i6_5
def pAt (n : Nat) (a0 : Int) : Option (Int × Int × Int × Int × Int × Int × Option Int) :=
  bif (decide (a0 < (0 : Int))) then
    some (0, 0, 0, 0, 0, 0, (some 1))
  else
    (pahead n 10000).bind fun r13 =>
    gd (okI .i64 (r13 * 86400)) <|
    bif (decide ((r13 * 86400) ≤ a0)) then
      some (0, 0, 0, 0, 0, 0, (some 1))
    else
      gd ((86400 : Int) ≠ 0) <|
      gd (okI .i64 (Int.tdiv a0 86400)) <|
      gd ((86400 : Int) ≠ 0) <|
      gd ((366 : Int) ≠ 0) <|
      gd (okI .i64 (Int.tdiv (Int.tdiv a0 86400) 366)) <|
      gd (okI .i64 ((Int.tdiv (Int.tdiv a0 86400) 366) + 1)) <|
      pAt_l2 n a0 n ((Int.tdiv (Int.tdiv a0 86400) 366) + 1)
def lCounts (n : Nat) (a0_0 : Int) (a0_1 : Int) (a0_2 : Int) (a0_3 : Int) (a0_4 : Int) (a0_5 : Int) (a1 : Int) : Option (Bool) :=
  (pup n).bind fun r13 =>
  (pCount n a0_0 a0_1 a0_2 a0_3 a0_4 a0_5).bind fun r16 =>
  (rMay8 n a0_0 a0_1 a0_2 a0_3 a0_4 a0_5).bind fun r20 =>
  bif (!r20) then
    gd (¬((r16.2 : Option Int) = none ∧ ((some 1) : Option Int) = none)) <|
    bif (!(r16.2 == (some 1))) then
      some false
    else
      bif (r16.1 != 0) then
        some false
      else
        bif r20 then
          bif (!((r16.2).isNone)) then
            some false
          else
            (rCount n a0_0 a0_1 a0_2 a0_3 a0_4 a0_5).bind fun r40 =>
            bif (r16.1 != r40) then
              some false
            else
              (pAt n a1).bind fun r47 =>
              (rCount n 9999 12 31 23 59 59).bind fun r51 =>
              bif (decide (a1 < (0 : Int))) then
                bif r13 then
                  gd (¬((r47.2.2.2.2.2.2 : Option Int) = none ∧ ((some 1) : Option Int) = none)) <|
                  bif (r47.2.2.2.2.2.2 == (some 1)) then
                    some ((r47.1 == (0 : Int)) && ((r47.2.1 == (0 : Int)) && ((r47.2.2.1 == (0 : Int)) && ((r47.2.2.2.1 == (0 : Int)) && ((r47.2.2.2.2.1 == (0 : Int)) && ((r47.2.2.2.2.2.1 == (0 : Int)) && true))))))
                  else
                    some false
                else
                  some false
              else
                bif (decide (r51 < a1)) then
                  bif r13 then
                    gd (¬((r47.2.2.2.2.2.2 : Option Int) = none ∧ ((some 1) : Option Int) = none)) <|
                    bif (r47.2.2.2.2.2.2 == (some 1)) then
                      some ((r47.1 == (0 : Int)) && ((r47.2.1 == (0 : Int)) && ((r47.2.2.1 == (0 : Int)) && ((r47.2.2.2.1 == (0 : Int)) && ((r47.2.2.2.2.1 == (0 : Int)) && ((r47.2.2.2.2.2.1 == (0 : Int)) && true))))))
                    else
                      some false
                  else
                    some false
                else
                  (rMay8 n r47.1 r47.2.1 r47.2.2.1 r47.2.2.2.1 r47.2.2.2.2.1 r47.2.2.2.2.2.1).bind fun r71 =>
                  bif r13 then
                    bif ((r47.2.2.2.2.2.2).isNone) then
                      bif r71 then
                        (rCount n r47.1 r47.2.1 r47.2.2.1 r47.2.2.2.1 r47.2.2.2.2.1 r47.2.2.2.2.2.1).bind fun r82 =>
                        some (r82 == a1)
                      else
                        some false
                    else
                      some false
                  else
                    some false
        else
          (pAt n a1).bind fun r47 =>
          (rCount n 9999 12 31 23 59 59).bind fun r51 =>
          bif (decide (a1 < (0 : Int))) then
            bif r13 then
              gd (¬((r47.2.2.2.2.2.2 : Option Int) = none ∧ ((some 1) : Option Int) = none)) <|
              bif (r47.2.2.2.2.2.2 == (some 1)) then
                some ((r47.1 == (0 : Int)) && ((r47.2.1 == (0 : Int)) && ((r47.2.2.1 == (0 : Int)) && ((r47.2.2.2.1 == (0 : Int)) && ((r47.2.2.2.2.1 == (0 : Int)) && ((r47.2.2.2.2.2.1 == (0 : Int)) && true))))))
              else
                some false
            else
              some false
          else
            bif (decide (r51 < a1)) then
              bif r13 then
                gd (¬((r47.2.2.2.2.2.2 : Option Int) = none ∧ ((some 1) : Option Int) = none)) <|
                bif (r47.2.2.2.2.2.2 == (some 1)) then
                  some ((r47.1 == (0 : Int)) && ((r47.2.1 == (0 : Int)) && ((r47.2.2.1 == (0 : Int)) && ((r47.2.2.2.1 == (0 : Int)) && ((r47.2.2.2.2.1 == (0 : Int)) && ((r47.2.2.2.2.2.1 == (0 : Int)) && true))))))
                else
                  some false
              else
                some false
            else
              (rMay8 n r47.1 r47.2.1 r47.2.2.1 r47.2.2.2.1 r47.2.2.2.2.1 r47.2.2.2.2.2.1).bind fun r71 =>
              bif r13 then
                bif ((r47.2.2.2.2.2.2).isNone) then
                  bif r71 then
                    (rCount n r47.1 r47.2.1 r47.2.2.1 r47.2.2.2.1 r47.2.2.2.2.1 r47.2.2.2.2.2.1).bind fun r82 =>
                    some (r82 == a1)
                  else
                    some false
                else
                  some false
              else
                some false
  else
    bif r20 then
      bif (!((r16.2).isNone)) then
        some false
      else
        (rCount n a0_0 a0_1 a0_2 a0_3 a0_4 a0_5).bind fun r40 =>
        bif (r16.1 != r40) then
          some false
        else
          (pAt n a1).bind fun r47 =>
          (rCount n 9999 12 31 23 59 59).bind fun r51 =>
          bif (decide (a1 < (0 : Int))) then
            bif r13 then
              gd (¬((r47.2.2.2.2.2.2 : Option Int) = none ∧ ((some 1) : Option Int) = none)) <|
              bif (r47.2.2.2.2.2.2 == (some 1)) then
                some ((r47.1 == (0 : Int)) && ((r47.2.1 == (0 : Int)) && ((r47.2.2.1 == (0 : Int)) && ((r47.2.2.2.1 == (0 : Int)) && ((r47.2.2.2.2.1 == (0 : Int)) && ((r47.2.2.2.2.2.1 == (0 : Int)) && true))))))
              else
                some false
            else
              some false
          else
            bif (decide (r51 < a1)) then
              bif r13 then
                gd (¬((r47.2.2.2.2.2.2 : Option Int) = none ∧ ((some 1) : Option Int) = none)) <|
                bif (r47.2.2.2.2.2.2 == (some 1)) then
                  some ((r47.1 == (0 : Int)) && ((r47.2.1 == (0 : Int)) && ((r47.2.2.1 == (0 : Int)) && ((r47.2.2.2.1 == (0 : Int)) && ((r47.2.2.2.2.1 == (0 : Int)) && ((r47.2.2.2.2.2.1 == (0 : Int)) && true))))))
                else
                  some false
              else
                some false
            else
              (rMay8 n r47.1 r47.2.1 r47.2.2.1 r47.2.2.2.1 r47.2.2.2.2.1 r47.2.2.2.2.2.1).bind fun r71 =>
              bif r13 then
                bif ((r47.2.2.2.2.2.2).isNone) then
                  bif r71 then
                    (rCount n r47.1 r47.2.1 r47.2.2.1 r47.2.2.2.1 r47.2.2.2.2.1 r47.2.2.2.2.2.1).bind fun r82 =>
                    some (r82 == a1)
                  else
                    some false
                else
                  some false
              else
                some false
    else
      (pAt n a1).bind fun r47 =>
      (rCount n 9999 12 31 23 59 59).bind fun r51 =>
      bif (decide (a1 < (0 : Int))) then
        bif r13 then
          gd (¬((r47.2.2.2.2.2.2 : Option Int) = none ∧ ((some 1) : Option Int) = none)) <|
          bif (r47.2.2.2.2.2.2 == (some 1)) then
            some ((r47.1 == (0 : Int)) && ((r47.2.1 == (0 : Int)) && ((r47.2.2.1 == (0 : Int)) && ((r47.2.2.2.1 == (0 : Int)) && ((r47.2.2.2.2.1 == (0 : Int)) && ((r47.2.2.2.2.2.1 == (0 : Int)) && true))))))
          else
            some false
        else
          some false
      else
        bif (decide (r51 < a1)) then
          bif r13 then
            gd (¬((r47.2.2.2.2.2.2 : Option Int) = none ∧ ((some 1) : Option Int) = none)) <|
            bif (r47.2.2.2.2.2.2 == (some 1)) then
              some ((r47.1 == (0 : Int)) && ((r47.2.1 == (0 : Int)) && ((r47.2.2.1 == (0 : Int)) && ((r47.2.2.2.1 == (0 : Int)) && ((r47.2.2.2.2.1 == (0 : Int)) && ((r47.2.2.2.2.2.1 == (0 : Int)) && true))))))
            else
              some false
          else
            some false
        else
          (rMay8 n r47.1 r47.2.1 r47.2.2.1 r47.2.2.2.1 r47.2.2.2.2.1 r47.2.2.2.2.2.1).bind fun r71 =>
          bif r13 then
            bif ((r47.2.2.2.2.2.2).isNone) then
              bif r71 then
                (rCount n r47.1 r47.2.1 r47.2.2.1 r47.2.2.2.1 r47.2.2.2.2.1 r47.2.2.2.2.2.1).bind fun r82 =>
                some (r82 == a1)
              else
                some false
            else
              some false
          else
            some false

def rLeap_R (r : Bool) : S := ⟨[(2, .c (.s (.b r)))], [], []⟩
def rLeap_ct (n : Nat) (r : Bool) : Ct := fun args H => match args with
  | [x0] => (match aI x0 with | some l0 => some ([rLeap n l0 = some r], shA H.length (.c (.s (.b r))), shH H.length []) | none => none)
  | _ => none
theorem rLeap_ok (n : Nat) (r : Bool) : FnOk Try.prog Tr 54 (rLeap_ct n r) := by
  refine ⟨fun args H g av objs hF hg ρ w vals hG hp ha => ?_, _, Try.func54, by kernel_rfl, by kernel_rfl⟩
  obtain ⟨x0, rfl⟩ : ∃ x0, args = [x0] := by
    unfold rLeap_ct at hF; split at hF
    · exact ⟨_, rfl⟩
    · cases hF
  cases e0 : aI x0 with
  | none => simp only [rLeap_ct, e0, reduceCtorEq] at hF
  | some l0 =>
  simp only [rLeap_ct, e0, Option.some.injEq, Prod.mk.injEq] at hF
  obtain ⟨rfl, rfl, rfl⟩ := hF
  obtain ⟨v0, vals, rfl, k0, ha⟩ := F2.inv ha
  obtain rfl := F2.inv0 ha
  have hI : ∀ w', Kp (noB (fun _ => undef)) w w' → Tr w' := fun _ hk => Tr.keep hk.below hG
  have h : rLeap n l0 = some r := hg
  have s0 := aI_ok e0 (k0)
  have hR0 := rel0 (gv := (fun _ => undef)) (n := 16) (w := w) (args := [.c (.s (.k .i64 l0))]) (H := []) (gl := []) (hpL (ps := []) F2.nil) (allRo_ok rfl) (F2.cons s0 F2.nil) GlR.nil (by simp)
  clear ha hp hg k0 e0
  refine calls_W Try.func54 rfl rfl hR0 (Q := fun e s => (e = .ret ∨ e = .normal) ∧ s = rLeap_R r) ?_ ?_
  · clear hR0
    unfold rLeap at h
    have hT := tabO_pc
    refine W_seq ?_
    refine W_reg hT ftL_nil [] [] [0] [] (s' := ⟨[(0, .c (.s (.k .i64 l0)))], [], []⟩) (by kernel_rfl) allP_nil ?_
    refine W_seq ?_
    obtain ⟨g1, h⟩ := gd_some h
    rcases Bool.eq_false_or_eq_true ((Int.tmod l0 400) == 0) with g2 | g2
    · replace h := bif_t h g2
      refine W_reg hT ftL_nil [(3, true)] [] [2] [] (s' := ⟨[(2, .c (.s (.b true)))], [], []⟩) (by kernel_rfl) (allP_cons.2 ⟨g1, (allP_cons.2 ⟨g2, allP_nil⟩)⟩) ?_
      refine W_co [] [2] [] (s' := (rLeap_R true)) (by kernel_rfl) (W_ret ?_)
      exact ⟨.inl rfl, by cases h; rfl⟩
    · replace h := bif_f h g2
      obtain ⟨g3, h⟩ := gd_some h
      rcases Bool.eq_false_or_eq_true ((Int.tmod l0 4) == 0) with g4 | g4
      · replace h := bif_t h g4
        obtain ⟨g5, h⟩ := gd_some h
        refine W_reg hT ftL_nil [(3, false), (7, true)] [] [2] [] (s' := ⟨[(2, .c (.s (.b ((Int.tmod l0 100) != 0))))], [], []⟩) (by kernel_rfl) (allP_cons.2 ⟨g1, (allP_cons.2 ⟨g2, (allP_cons.2 ⟨g3, (allP_cons.2 ⟨g4, (allP_cons.2 ⟨g5, allP_nil⟩)⟩)⟩)⟩)⟩) ?_
        refine W_co [] [2] [] (s' := (rLeap_R ((Int.tmod l0 100) != 0))) (by kernel_rfl) (W_ret ?_)
        exact ⟨.inl rfl, by cases h; rfl⟩
      · replace h := bif_f h g4
        refine W_reg hT ftL_nil [(3, false), (7, false)] [] [2] [] (s' := ⟨[(2, .c (.s (.b false)))], [], []⟩) (by kernel_rfl) (allP_cons.2 ⟨g1, (allP_cons.2 ⟨g2, (allP_cons.2 ⟨g3, (allP_cons.2 ⟨g4, allP_nil⟩)⟩)⟩)⟩) ?_
        refine W_co [] [2] [] (s' := (rLeap_R false)) (by kernel_rfl) (W_ret ?_)
        exact ⟨.inl rfl, by cases h; rfl⟩
  · rintro e s' ⟨he, rfl⟩
    refine ⟨he, fun a' w' hr => ?_⟩
    exact retS_ok tabO_pc hr (rs := [.tmp 2]) rfl (objs := []) (by kernel_rfl)
def rDays_R (r : Int) : S := ⟨[(4, .c (.s (.k .i64 r)))], [], []⟩
def rDays_ct (n : Nat) (r : Int) : Ct := fun args H => match args with
  | [x0, x1] => (match aI x0 with | some l0 => (match aI x1 with | some l1 => some ([rDays n l0 l1 = some r], shA H.length (.c (.s (.k .i64 r))), shH H.length []) | none => none) | none => none)
  | _ => none
theorem rDays_ok (n : Nat) (r : Int) : FnOk Try.prog Tr 53 (rDays_ct n r) := by
  refine ⟨fun args H g av objs hF hg ρ w vals hG hp ha => ?_, _, Try.func53, by kernel_rfl, by kernel_rfl⟩
  obtain ⟨x0, x1, rfl⟩ : ∃ x0 x1, args = [x0, x1] := by
    unfold rDays_ct at hF; split at hF
    · exact ⟨_, _, rfl⟩
    · cases hF
  cases e0 : aI x0 with
  | none => simp only [rDays_ct, e0, reduceCtorEq] at hF
  | some l0 =>
  cases e1 : aI x1 with
  | none => simp only [rDays_ct, e0, e1, reduceCtorEq] at hF
  | some l1 =>
  simp only [rDays_ct, e0, e1, Option.some.injEq, Prod.mk.injEq] at hF
  obtain ⟨rfl, rfl, rfl⟩ := hF
  obtain ⟨v0, vals, rfl, k0, ha⟩ := F2.inv ha
  obtain ⟨v1, vals, rfl, k1, ha⟩ := F2.inv ha
  obtain rfl := F2.inv0 ha
  have hI : ∀ w', Kp (noB (fun _ => undef)) w w' → Tr w' := fun _ hk => Tr.keep hk.below hG
  have h : rDays n l0 l1 = some r := hg
  have s0 := aI_ok e0 (k0)
  have s1 := aI_ok e1 (k1)
  have hR0 := rel0 (gv := (fun _ => undef)) (n := 23) (w := w) (args := [.c (.s (.k .i64 l0)), .c (.s (.k .i64 l1))]) (H := []) (gl := []) (hpL (ps := []) F2.nil) (allRo_ok rfl) (F2.cons s0 (F2.cons s1 F2.nil)) GlR.nil (by simp)
  clear ha hp hg k0 k1 e0 e1
  refine calls_W Try.func53 rfl rfl hR0 (Q := fun e s => (e = .ret ∨ e = .normal) ∧ s = rDays_R r) ?_ ?_
  · clear hR0
    unfold rDays at h
    have hT := tabO_pc
    refine W_seq ?_
    refine W_reg hT ftL_nil [] [] [0, 1] [] (s' := ⟨[(0, .c (.s (.k .i64 l0))), (1, .c (.s (.k .i64 l1)))], [], []⟩) (by kernel_rfl) allP_nil ?_
    refine W_seq ?_
    refine W_seq ?_
    refine W_reg hT ftL_nil [] [] [0, 1, 6] [] (s' := ⟨[(0, .c (.s (.k .i64 l0))), (1, .c (.s (.k .i64 l1))), (6, .c (.s (.b (l1 == 2))))], [], []⟩) (by kernel_rfl) allP_nil ?_
    refine W_cond (b := (l1 == 2)) (by kernel_rfl) (fun g7 => ?_) (fun g7 => ?_)
    · replace h := bif_t h g7
      refine W_seq ?_
      refine W_seq ?_
      obtain ⟨r8, g1, h⟩ := bind_some' h
      refine W_reg hT (ftL_cons (k := 1) (f := 54) (F := (rLeap_ct n r8)) (rLeap_ok n r8) (fun _ _ => True.intro) ftL_nil) [] [] [8] [] (s' := ⟨[(8, .c (.s (.b r8)))], [], []⟩) (by kernel_rfl) (allP_cons.2 ⟨g1, allP_nil⟩) ?_
      refine W_cond (b := r8) (by kernel_rfl) (fun g2 => ?_) (fun g2 => ?_)
      · replace h := bif_t h g2
        refine W_seq ?_
        refine W_reg hT ftL_nil [] [] [4] [] (s' := ⟨[(4, .c (.s (.k .i64 29)))], [], []⟩) (by kernel_rfl) allP_nil ?_
        refine W_co [] [4] [] (s' := (rDays_R 29)) (by kernel_rfl) (W_ret ?_)
        exact ⟨.inl rfl, by cases h; rfl⟩
      · replace h := bif_f h g2
        refine W_co [] [] [] (s' := ⟨[], [], []⟩) (by kernel_rfl) (W_skip ?_)
        refine W_seq ?_
        refine W_reg hT ftL_nil [] [] [4] [] (s' := ⟨[(4, .c (.s (.k .i64 28)))], [], []⟩) (by kernel_rfl) allP_nil ?_
        refine W_co [] [4] [] (s' := (rDays_R 28)) (by kernel_rfl) (W_ret ?_)
        exact ⟨.inl rfl, by cases h; rfl⟩
    · replace h := bif_f h g7
      refine W_co [] [1] [] (s' := ⟨[(1, .c (.s (.k .i64 l1)))], [], []⟩) (by kernel_rfl) (W_skip ?_)
      refine W_seq ?_
      refine W_seq ?_
      rcases Bool.eq_false_or_eq_true (l1 == 4) with g3 | g3
      · replace h := bif_t h g3
        refine W_reg hT ftL_nil [(2, true)] [] [22] [] (s' := ⟨[(22, .c (.s (.b true)))], [], []⟩) (by kernel_rfl) (allP_cons.2 ⟨g3, allP_nil⟩) ?_
        refine W_cond (b := true) (by kernel_rfl) (fun _ => ?_) (fun hb => by cases hb)
        refine W_seq ?_
        refine W_reg hT ftL_nil [] [] [4] [] (s' := ⟨[(4, .c (.s (.k .i64 30)))], [], []⟩) (by kernel_rfl) allP_nil ?_
        refine W_co [] [4] [] (s' := (rDays_R 30)) (by kernel_rfl) (W_ret ?_)
        exact ⟨.inl rfl, by cases h; rfl⟩
      · replace h := bif_f h g3
        rcases Bool.eq_false_or_eq_true (l1 == 6) with g4 | g4
        · replace h := bif_t h g4
          refine W_reg hT ftL_nil [(2, false), (6, true)] [] [22] [] (s' := ⟨[(22, .c (.s (.b true)))], [], []⟩) (by kernel_rfl) (allP_cons.2 ⟨g3, (allP_cons.2 ⟨g4, allP_nil⟩)⟩) ?_
          refine W_cond (b := true) (by kernel_rfl) (fun _ => ?_) (fun hb => by cases hb)
          refine W_seq ?_
          refine W_reg hT ftL_nil [] [] [4] [] (s' := ⟨[(4, .c (.s (.k .i64 30)))], [], []⟩) (by kernel_rfl) allP_nil ?_
          refine W_co [] [4] [] (s' := (rDays_R 30)) (by kernel_rfl) (W_ret ?_)
          exact ⟨.inl rfl, by cases h; rfl⟩
        · replace h := bif_f h g4
          rcases Bool.eq_false_or_eq_true (l1 == 9) with g5 | g5
          · replace h := bif_t h g5
            refine W_reg hT ftL_nil [(2, false), (6, false), (10, true)] [] [22] [] (s' := ⟨[(22, .c (.s (.b true)))], [], []⟩) (by kernel_rfl) (allP_cons.2 ⟨g3, (allP_cons.2 ⟨g4, (allP_cons.2 ⟨g5, allP_nil⟩)⟩)⟩) ?_
            refine W_cond (b := true) (by kernel_rfl) (fun _ => ?_) (fun hb => by cases hb)
            refine W_seq ?_
            refine W_reg hT ftL_nil [] [] [4] [] (s' := ⟨[(4, .c (.s (.k .i64 30)))], [], []⟩) (by kernel_rfl) allP_nil ?_
            refine W_co [] [4] [] (s' := (rDays_R 30)) (by kernel_rfl) (W_ret ?_)
            exact ⟨.inl rfl, by cases h; rfl⟩
          · replace h := bif_f h g5
            refine W_reg hT ftL_nil [(2, false), (6, false), (10, false)] [] [22] [] (s' := ⟨[(22, .c (.s (.b (l1 == 11))))], [], []⟩) (by kernel_rfl) (allP_cons.2 ⟨g3, (allP_cons.2 ⟨g4, (allP_cons.2 ⟨g5, allP_nil⟩)⟩)⟩) ?_
            refine W_cond (b := (l1 == 11)) (by kernel_rfl) (fun g6 => ?_) (fun g6 => ?_)
            · replace h := bif_t h g6
              refine W_seq ?_
              refine W_reg hT ftL_nil [] [] [4] [] (s' := ⟨[(4, .c (.s (.k .i64 30)))], [], []⟩) (by kernel_rfl) allP_nil ?_
              refine W_co [] [4] [] (s' := (rDays_R 30)) (by kernel_rfl) (W_ret ?_)
              exact ⟨.inl rfl, by cases h; rfl⟩
            · replace h := bif_f h g6
              refine W_co [] [] [] (s' := ⟨[], [], []⟩) (by kernel_rfl) (W_skip ?_)
              refine W_seq ?_
              refine W_reg hT ftL_nil [] [] [4] [] (s' := ⟨[(4, .c (.s (.k .i64 31)))], [], []⟩) (by kernel_rfl) allP_nil ?_
              refine W_co [] [4] [] (s' := (rDays_R 31)) (by kernel_rfl) (W_ret ?_)
              exact ⟨.inl rfl, by cases h; rfl⟩
  · rintro e s' ⟨he, rfl⟩
    refine ⟨he, fun a' w' hr => ?_⟩
    exact retS_ok tabO_pc hr (rs := [.tmp 4]) rfl (objs := []) (by kernel_rfl)
def rMay8_R (r : Bool) : S := ⟨[(2, .c (.s (.b r)))], [], []⟩
def rMay8_ct (n : Nat) (r : Bool) : Ct := fun args H => match args with
  | [x0] => (match aGc 6 x0 with | some y0 => (match aI (.c (y0.getD 0 .junk)) with | some l0_0 => (match aI (.c (y0.getD 1 .junk)) with | some l0_1 => (match aI (.c (y0.getD 2 .junk)) with | some l0_2 => (match aI (.c (y0.getD 3 .junk)) with | some l0_3 => (match aI (.c (y0.getD 4 .junk)) with | some l0_4 => (match aI (.c (y0.getD 5 .junk)) with | some l0_5 => some ([rMay8 n l0_0 l0_1 l0_2 l0_3 l0_4 l0_5 = some r], shA H.length (.c (.s (.b r))), shH H.length []) | none => none) | none => none) | none => none) | none => none) | none => none) | none => none) | none => none)
  | _ => none
theorem rMay8_ok (n : Nat) (r : Bool) : FnOk Try.prog Tr 21 (rMay8_ct n r) := by
  refine ⟨fun args H g av objs hF hg ρ w vals hG hp ha => ?_, _, Try.func21, by kernel_rfl, by kernel_rfl⟩
  obtain ⟨x0, rfl⟩ : ∃ x0, args = [x0] := by
    unfold rMay8_ct at hF; split at hF
    · exact ⟨_, rfl⟩
    · cases hF
  cases e0 : aGc 6 x0 with
  | none => simp only [rMay8_ct, e0, reduceCtorEq] at hF
  | some y0 =>
  cases e1 : aI (.c (y0.getD 0 .junk)) with
  | none => simp only [rMay8_ct, e0, e1, reduceCtorEq] at hF
  | some l0_0 =>
  cases e2 : aI (.c (y0.getD 1 .junk)) with
  | none => simp only [rMay8_ct, e0, e1, e2, reduceCtorEq] at hF
  | some l0_1 =>
  cases e3 : aI (.c (y0.getD 2 .junk)) with
  | none => simp only [rMay8_ct, e0, e1, e2, e3, reduceCtorEq] at hF
  | some l0_2 =>
  cases e4 : aI (.c (y0.getD 3 .junk)) with
  | none => simp only [rMay8_ct, e0, e1, e2, e3, e4, reduceCtorEq] at hF
  | some l0_3 =>
  cases e5 : aI (.c (y0.getD 4 .junk)) with
  | none => simp only [rMay8_ct, e0, e1, e2, e3, e4, e5, reduceCtorEq] at hF
  | some l0_4 =>
  cases e6 : aI (.c (y0.getD 5 .junk)) with
  | none => simp only [rMay8_ct, e0, e1, e2, e3, e4, e5, e6, reduceCtorEq] at hF
  | some l0_5 =>
  simp only [rMay8_ct, e0, e1, e2, e3, e4, e5, e6, Option.some.injEq, Prod.mk.injEq] at hF
  obtain ⟨rfl, rfl, rfl⟩ := hF
  obtain ⟨v0, vals, rfl, k0, ha⟩ := F2.inv ha
  obtain rfl := F2.inv0 ha
  have hI : ∀ w', Kp (noB (fun _ => undef)) w w' → Tr w' := fun _ hk => Tr.keep hk.below hG
  have h : rMay8 n l0_0 l0_1 l0_2 l0_3 l0_4 l0_5 = some r := hg
  obtain ⟨vs0, hn0, rfl, hy0⟩ := aGc_ok e0 k0
  have s0_0 := aI_ok e1 (hy0 0 (by decide))
  have s0_1 := aI_ok e2 (hy0 1 (by decide))
  have s0_2 := aI_ok e3 (hy0 2 (by decide))
  have s0_3 := aI_ok e4 (hy0 3 (by decide))
  have s0_4 := aI_ok e5 (hy0 4 (by decide))
  have s0_5 := aI_ok e6 (hy0 5 (by decide))
  have hR0 := rel0 (gv := (fun _ => undef)) (n := 64) (w := w) (args := [.g 6 (.c [.s (.k .i64 l0_0), .s (.k .i64 l0_1), .s (.k .i64 l0_2), .s (.k .i64 l0_3), .s (.k .i64 l0_4), .s (.k .i64 l0_5)])]) (H := []) (gl := []) (hpL (ps := []) F2.nil) (allRo_ok rfl) (F2.cons ⟨vs0, (by rw [lstE undef hn0]; exact (F2.cons s0_0 (F2.cons s0_1 (F2.cons s0_2 (F2.cons s0_3 (F2.cons s0_4 (F2.cons s0_5 F2.nil))))))), hn0, rfl⟩ F2.nil) GlR.nil (by simp)
  clear ha hp hg k0 e0 e1 e2 e3 e4 e5 e6
  refine calls_W Try.func21 rfl rfl hR0 (Q := fun e s => (e = .ret ∨ e = .normal) ∧ s = rMay8_R r) ?_ ?_
  · clear hR0
    unfold rMay8 at h
    have hT := tabO_pc
    refine W_seq ?_
    refine W_reg hT ftL_nil [] [] [1] [0] (s' := ⟨[(1, .c (.pt 0 0))], [], [⟨.blk, 34, 1, 6, .c [.s (.k .i64 l0_0), .s (.k .i64 l0_1), .s (.k .i64 l0_2), .s (.k .i64 l0_3), .s (.k .i64 l0_4), .s (.k .i64 l0_5)]⟩]⟩) (by kernel_rfl) allP_nil ?_
    refine W_seq ?_
    refine W_seq ?_
    rcases Bool.eq_false_or_eq_true (decide (l0_0 < (1 : Int))) with g1 | g1
    · replace h := bif_t h g1
      refine W_reg hT ftL_nil [(3, true)] [] [1, 40] [0] (s' := ⟨[(1, .c (.pt 0 0)), (40, .c (.s (.b true)))], [], [⟨.blk, 34, 1, 6, .c [.s (.k .i64 l0_0), .s (.k .i64 l0_1), .s (.k .i64 l0_2), .s (.k .i64 l0_3), .s (.k .i64 l0_4), .s (.k .i64 l0_5)]⟩]⟩) (by kernel_rfl) (allP_cons.2 ⟨g1, allP_nil⟩) ?_
      refine W_cond (b := true) (by kernel_rfl) (fun _ => ?_) (fun hb => by cases hb)
      refine W_seq ?_
      refine W_reg hT ftL_nil [] [] [2] [] (s' := ⟨[(2, .c (.s (.b false)))], [], []⟩) (by kernel_rfl) allP_nil ?_
      refine W_co [] [2] [] (s' := (rMay8_R false)) (by kernel_rfl) (W_ret ?_)
      exact ⟨.inl rfl, by cases h; rfl⟩
    · replace h := bif_f h g1
      rcases Bool.eq_false_or_eq_true (decide ((9999 : Int) < l0_0)) with g2 | g2
      · replace h := bif_t h g2
        refine W_reg hT ftL_nil [(3, false), (8, true)] [] [1, 40] [0] (s' := ⟨[(1, .c (.pt 0 0)), (40, .c (.s (.b true)))], [], [⟨.blk, 34, 1, 6, .c [.s (.k .i64 l0_0), .s (.k .i64 l0_1), .s (.k .i64 l0_2), .s (.k .i64 l0_3), .s (.k .i64 l0_4), .s (.k .i64 l0_5)]⟩]⟩) (by kernel_rfl) (allP_cons.2 ⟨g1, (allP_cons.2 ⟨g2, allP_nil⟩)⟩) ?_
        refine W_cond (b := true) (by kernel_rfl) (fun _ => ?_) (fun hb => by cases hb)
        refine W_seq ?_
        refine W_reg hT ftL_nil [] [] [2] [] (s' := ⟨[(2, .c (.s (.b false)))], [], []⟩) (by kernel_rfl) allP_nil ?_
        refine W_co [] [2] [] (s' := (rMay8_R false)) (by kernel_rfl) (W_ret ?_)
        exact ⟨.inl rfl, by cases h; rfl⟩
      · replace h := bif_f h g2
        rcases Bool.eq_false_or_eq_true (decide (l0_1 < (1 : Int))) with g3 | g3
        · replace h := bif_t h g3
          refine W_reg hT ftL_nil [(3, false), (8, false), (13, true)] [] [1, 40] [0] (s' := ⟨[(1, .c (.pt 0 0)), (40, .c (.s (.b true)))], [], [⟨.blk, 34, 1, 6, .c [.s (.k .i64 l0_0), .s (.k .i64 l0_1), .s (.k .i64 l0_2), .s (.k .i64 l0_3), .s (.k .i64 l0_4), .s (.k .i64 l0_5)]⟩]⟩) (by kernel_rfl) (allP_cons.2 ⟨g1, (allP_cons.2 ⟨g2, (allP_cons.2 ⟨g3, allP_nil⟩)⟩)⟩) ?_
          refine W_cond (b := true) (by kernel_rfl) (fun _ => ?_) (fun hb => by cases hb)
          refine W_seq ?_
          refine W_reg hT ftL_nil [] [] [2] [] (s' := ⟨[(2, .c (.s (.b false)))], [], []⟩) (by kernel_rfl) allP_nil ?_
          refine W_co [] [2] [] (s' := (rMay8_R false)) (by kernel_rfl) (W_ret ?_)
          exact ⟨.inl rfl, by cases h; rfl⟩
        · replace h := bif_f h g3
          rcases Bool.eq_false_or_eq_true (decide ((12 : Int) < l0_1)) with g4 | g4
          · replace h := bif_t h g4
            refine W_reg hT ftL_nil [(3, false), (8, false), (13, false), (18, true)] [] [1, 40] [0] (s' := ⟨[(1, .c (.pt 0 0)), (40, .c (.s (.b true)))], [], [⟨.blk, 34, 1, 6, .c [.s (.k .i64 l0_0), .s (.k .i64 l0_1), .s (.k .i64 l0_2), .s (.k .i64 l0_3), .s (.k .i64 l0_4), .s (.k .i64 l0_5)]⟩]⟩) (by kernel_rfl) (allP_cons.2 ⟨g1, (allP_cons.2 ⟨g2, (allP_cons.2 ⟨g3, (allP_cons.2 ⟨g4, allP_nil⟩)⟩)⟩)⟩) ?_
            refine W_cond (b := true) (by kernel_rfl) (fun _ => ?_) (fun hb => by cases hb)
            refine W_seq ?_
            refine W_reg hT ftL_nil [] [] [2] [] (s' := ⟨[(2, .c (.s (.b false)))], [], []⟩) (by kernel_rfl) allP_nil ?_
            refine W_co [] [2] [] (s' := (rMay8_R false)) (by kernel_rfl) (W_ret ?_)
            exact ⟨.inl rfl, by cases h; rfl⟩
          · replace h := bif_f h g4
            rcases Bool.eq_false_or_eq_true (decide (l0_2 < (1 : Int))) with g5 | g5
            · replace h := bif_t h g5
              refine W_reg hT ftL_nil [(3, false), (8, false), (13, false), (18, false), (23, true)] [] [1, 40] [0] (s' := ⟨[(1, .c (.pt 0 0)), (40, .c (.s (.b true)))], [], [⟨.blk, 34, 1, 6, .c [.s (.k .i64 l0_0), .s (.k .i64 l0_1), .s (.k .i64 l0_2), .s (.k .i64 l0_3), .s (.k .i64 l0_4), .s (.k .i64 l0_5)]⟩]⟩) (by kernel_rfl) (allP_cons.2 ⟨g1, (allP_cons.2 ⟨g2, (allP_cons.2 ⟨g3, (allP_cons.2 ⟨g4, (allP_cons.2 ⟨g5, allP_nil⟩)⟩)⟩)⟩)⟩) ?_
              refine W_cond (b := true) (by kernel_rfl) (fun _ => ?_) (fun hb => by cases hb)
              refine W_seq ?_
              refine W_reg hT ftL_nil [] [] [2] [] (s' := ⟨[(2, .c (.s (.b false)))], [], []⟩) (by kernel_rfl) allP_nil ?_
              refine W_co [] [2] [] (s' := (rMay8_R false)) (by kernel_rfl) (W_ret ?_)
              exact ⟨.inl rfl, by cases h; rfl⟩
            · replace h := bif_f h g5
              rcases Bool.eq_false_or_eq_true (decide (l0_3 < (0 : Int))) with g6 | g6
              · replace h := bif_t h g6
                refine W_reg hT ftL_nil [(3, false), (8, false), (13, false), (18, false), (23, false), (28, true)] [] [1, 40] [0] (s' := ⟨[(1, .c (.pt 0 0)), (40, .c (.s (.b true)))], [], [⟨.blk, 34, 1, 6, .c [.s (.k .i64 l0_0), .s (.k .i64 l0_1), .s (.k .i64 l0_2), .s (.k .i64 l0_3), .s (.k .i64 l0_4), .s (.k .i64 l0_5)]⟩]⟩) (by kernel_rfl) (allP_cons.2 ⟨g1, (allP_cons.2 ⟨g2, (allP_cons.2 ⟨g3, (allP_cons.2 ⟨g4, (allP_cons.2 ⟨g5, (allP_cons.2 ⟨g6, allP_nil⟩)⟩)⟩)⟩)⟩)⟩) ?_
                refine W_cond (b := true) (by kernel_rfl) (fun _ => ?_) (fun hb => by cases hb)
                refine W_seq ?_
                refine W_reg hT ftL_nil [] [] [2] [] (s' := ⟨[(2, .c (.s (.b false)))], [], []⟩) (by kernel_rfl) allP_nil ?_
                refine W_co [] [2] [] (s' := (rMay8_R false)) (by kernel_rfl) (W_ret ?_)
                exact ⟨.inl rfl, by cases h; rfl⟩
              · replace h := bif_f h g6
                rcases Bool.eq_false_or_eq_true (decide (l0_4 < (0 : Int))) with g7 | g7
                · replace h := bif_t h g7
                  refine W_reg hT ftL_nil [(3, false), (8, false), (13, false), (18, false), (23, false), (28, false), (33, true)] [] [1, 40] [0] (s' := ⟨[(1, .c (.pt 0 0)), (40, .c (.s (.b true)))], [], [⟨.blk, 34, 1, 6, .c [.s (.k .i64 l0_0), .s (.k .i64 l0_1), .s (.k .i64 l0_2), .s (.k .i64 l0_3), .s (.k .i64 l0_4), .s (.k .i64 l0_5)]⟩]⟩) (by kernel_rfl) (allP_cons.2 ⟨g1, (allP_cons.2 ⟨g2, (allP_cons.2 ⟨g3, (allP_cons.2 ⟨g4, (allP_cons.2 ⟨g5, (allP_cons.2 ⟨g6, (allP_cons.2 ⟨g7, allP_nil⟩)⟩)⟩)⟩)⟩)⟩)⟩) ?_
                  refine W_cond (b := true) (by kernel_rfl) (fun _ => ?_) (fun hb => by cases hb)
                  refine W_seq ?_
                  refine W_reg hT ftL_nil [] [] [2] [] (s' := ⟨[(2, .c (.s (.b false)))], [], []⟩) (by kernel_rfl) allP_nil ?_
                  refine W_co [] [2] [] (s' := (rMay8_R false)) (by kernel_rfl) (W_ret ?_)
                  exact ⟨.inl rfl, by cases h; rfl⟩
                · replace h := bif_f h g7
                  refine W_reg hT ftL_nil [(3, false), (8, false), (13, false), (18, false), (23, false), (28, false), (33, false)] [] [1, 40] [0] (s' := ⟨[(1, .c (.pt 0 0)), (40, .c (.s (.b (decide (l0_5 < (0 : Int))))))], [], [⟨.blk, 34, 1, 6, .c [.s (.k .i64 l0_0), .s (.k .i64 l0_1), .s (.k .i64 l0_2), .s (.k .i64 l0_3), .s (.k .i64 l0_4), .s (.k .i64 l0_5)]⟩]⟩) (by kernel_rfl) (allP_cons.2 ⟨g1, (allP_cons.2 ⟨g2, (allP_cons.2 ⟨g3, (allP_cons.2 ⟨g4, (allP_cons.2 ⟨g5, (allP_cons.2 ⟨g6, (allP_cons.2 ⟨g7, allP_nil⟩)⟩)⟩)⟩)⟩)⟩)⟩) ?_
                  refine W_cond (b := (decide (l0_5 < (0 : Int)))) (by kernel_rfl) (fun g12 => ?_) (fun g12 => ?_)
                  · replace h := bif_t h g12
                    refine W_seq ?_
                    refine W_reg hT ftL_nil [] [] [2] [] (s' := ⟨[(2, .c (.s (.b false)))], [], []⟩) (by kernel_rfl) allP_nil ?_
                    refine W_co [] [2] [] (s' := (rMay8_R false)) (by kernel_rfl) (W_ret ?_)
                    exact ⟨.inl rfl, by cases h; rfl⟩
                  · replace h := bif_f h g12
                    refine W_co [] [1] [0] (s' := ⟨[(1, .c (.pt 0 0))], [], [⟨.blk, 34, 1, 6, .c [.s (.k .i64 l0_0), .s (.k .i64 l0_1), .s (.k .i64 l0_2), .s (.k .i64 l0_3), .s (.k .i64 l0_4), .s (.k .i64 l0_5)]⟩]⟩) (by kernel_rfl) (W_skip ?_)
                    refine W_seq ?_
                    obtain ⟨r47, g8, h⟩ := bind_some' h
                    rcases Bool.eq_false_or_eq_true (decide (l0_2 ≤ r47)) with g9 | g9
                    · replace h := bif_t h g9
                      rcases Bool.eq_false_or_eq_true (decide (l0_3 < (24 : Int))) with g10 | g10
                      · replace h := bif_t h g10
                        rcases Bool.eq_false_or_eq_true (decide (l0_4 < (60 : Int))) with g11 | g11
                        · replace h := bif_t h g11
                          refine W_regD hT (ftL_cons (k := 6) (f := 53) (F := (rDays_ct n r47)) (rDays_ok n r47) (fun _ _ => True.intro) ftL_nil) (by kernel_rfl) 21 [(8, true), (13, true), (18, true)] [(59, false), (61, false)] [] [2] [] (s' := ⟨[(2, .c (.s (.b (decide (l0_5 < (60 : Int))))))], [], []⟩) (by kernel_rfl) (by kernel_rfl) (allP_cons.2 ⟨g8, (allP_cons.2 ⟨g9, (allP_cons.2 ⟨g10, (allP_cons.2 ⟨g11, allP_nil⟩)⟩)⟩)⟩) ?_
                          refine W_co [] [2] [] (s' := (rMay8_R (decide (l0_5 < (60 : Int))))) (by kernel_rfl) (W_ret ?_)
                          exact ⟨.inl rfl, by cases h; rfl⟩
                        · replace h := bif_f h g11
                          refine W_regD hT (ftL_cons (k := 6) (f := 53) (F := (rDays_ct n r47)) (rDays_ok n r47) (fun _ _ => True.intro) ftL_nil) (by kernel_rfl) 21 [(8, true), (13, true), (18, false)] [(59, false), (61, false)] [] [2] [] (s' := ⟨[(2, .c (.s (.b false)))], [], []⟩) (by kernel_rfl) (by kernel_rfl) (allP_cons.2 ⟨g8, (allP_cons.2 ⟨g9, (allP_cons.2 ⟨g10, (allP_cons.2 ⟨g11, allP_nil⟩)⟩)⟩)⟩) ?_
                          refine W_co [] [2] [] (s' := (rMay8_R false)) (by kernel_rfl) (W_ret ?_)
                          exact ⟨.inl rfl, by cases h; rfl⟩
                      · replace h := bif_f h g10
                        refine W_regD hT (ftL_cons (k := 6) (f := 53) (F := (rDays_ct n r47)) (rDays_ok n r47) (fun _ _ => True.intro) ftL_nil) (by kernel_rfl) 21 [(8, true), (13, false)] [(59, false), (61, false)] [] [2] [] (s' := ⟨[(2, .c (.s (.b false)))], [], []⟩) (by kernel_rfl) (by kernel_rfl) (allP_cons.2 ⟨g8, (allP_cons.2 ⟨g9, (allP_cons.2 ⟨g10, allP_nil⟩)⟩)⟩) ?_
                        refine W_co [] [2] [] (s' := (rMay8_R false)) (by kernel_rfl) (W_ret ?_)
                        exact ⟨.inl rfl, by cases h; rfl⟩
                    · replace h := bif_f h g9
                      refine W_regD hT (ftL_cons (k := 6) (f := 53) (F := (rDays_ct n r47)) (rDays_ok n r47) (fun _ _ => True.intro) ftL_nil) (by kernel_rfl) 21 [(8, false)] [(59, false), (61, false)] [] [2] [] (s' := ⟨[(2, .c (.s (.b false)))], [], []⟩) (by kernel_rfl) (by kernel_rfl) (allP_cons.2 ⟨g8, (allP_cons.2 ⟨g9, allP_nil⟩)⟩) ?_
                      refine W_co [] [2] [] (s' := (rMay8_R false)) (by kernel_rfl) (W_ret ?_)
                      exact ⟨.inl rfl, by cases h; rfl⟩
  · rintro e s' ⟨he, rfl⟩
    refine ⟨he, fun a' w' hr => ?_⟩
    exact retS_ok tabO_pc hr (rs := [.tmp 2]) rfl (objs := []) (by kernel_rfl)
def rCount_j1_E (a0_0 : Int) (a0_1 : Int) (a0_2 : Int) (a0_3 : Int) (a0_4 : Int) (a0_5 : Int) (i4_1 : Int) (i3_8 : Int) : S := ⟨[(1, .c (.pt 0 0)), (3, .c (.s (.k .i64 i3_8))), (4, .c (.s (.k .i64 i4_1)))], [], [⟨.blk, 34, 1, 6, .c [.s (.k .i64 a0_0), .s (.k .i64 a0_1), .s (.k .i64 a0_2), .s (.k .i64 a0_3), .s (.k .i64 a0_4), .s (.k .i64 a0_5)]⟩]⟩
def rCount_j1_P (n : Nat) (a0_0 : Int) (a0_1 : Int) (a0_2 : Int) (a0_3 : Int) (a0_4 : Int) (a0_5 : Int) (i4_1 : Int) (k_l1 : Int → Int → Option (Int)) (r : Int) : S → Prop := fun s => ∃ (i3_8 : Int), s = rCount_j1_E a0_0 a0_1 a0_2 a0_3 a0_4 a0_5 i4_1 i3_8 ∧ rCount_j1 n a0_0 a0_1 a0_2 a0_3 a0_4 a0_5 i4_1 k_l1 i3_8 = some r
theorem rCount_j1_M {n : Nat} {a0_0 : Int} {a0_1 : Int} {a0_2 : Int} {a0_3 : Int} {a0_4 : Int} {a0_5 : Int} {i4_1 : Int} {k_l1 : Int → Int → Option (Int)} {i3_8 : Int} {r : Int} (h : rCount_j1 n a0_0 a0_1 a0_2 a0_3 a0_4 a0_5 i4_1 k_l1 i3_8 = some r) : rCount_j1_P n a0_0 a0_1 a0_2 a0_3 a0_4 a0_5 i4_1 k_l1 r (rCount_j1_E a0_0 a0_1 a0_2 a0_3 a0_4 a0_5 i4_1 i3_8) := ⟨i3_8, rfl, h⟩
def rCount_l2_E (a0_0 : Int) (a0_1 : Int) (a0_2 : Int) (a0_3 : Int) (a0_4 : Int) (a0_5 : Int) (i3_9 : Int) (i6_1 : Int) : S := ⟨[(1, .c (.pt 0 0)), (3, .c (.s (.k .i64 i3_9))), (6, .c (.s (.k .i64 i6_1)))], [], [⟨.blk, 34, 1, 6, .c [.s (.k .i64 a0_0), .s (.k .i64 a0_1), .s (.k .i64 a0_2), .s (.k .i64 a0_3), .s (.k .i64 a0_4), .s (.k .i64 a0_5)]⟩]⟩
def rCount_l2_P (n : Nat) (a0_0 : Int) (a0_1 : Int) (a0_2 : Int) (a0_3 : Int) (a0_4 : Int) (a0_5 : Int) (r : Int) (fu : Nat) : S → Prop := fun s => ∃ (i3_9 : Int), ∃ (i6_1 : Int), s = rCount_l2_E a0_0 a0_1 a0_2 a0_3 a0_4 a0_5 i3_9 i6_1 ∧ rCount_l2 n a0_0 a0_1 a0_2 a0_3 a0_4 a0_5 fu i3_9 i6_1 = some r
theorem rCount_l2_M {n : Nat} {a0_0 : Int} {a0_1 : Int} {a0_2 : Int} {a0_3 : Int} {a0_4 : Int} {a0_5 : Int} {i3_9 : Int} {i6_1 : Int} {r : Int} {fu : Nat} (h : rCount_l2 n a0_0 a0_1 a0_2 a0_3 a0_4 a0_5 fu i3_9 i6_1 = some r) : rCount_l2_P n a0_0 a0_1 a0_2 a0_3 a0_4 a0_5 r fu (rCount_l2_E a0_0 a0_1 a0_2 a0_3 a0_4 a0_5 i3_9 i6_1) := ⟨i3_9, i6_1, rfl, h⟩
def rCount_l1_E (a0_0 : Int) (a0_1 : Int) (a0_2 : Int) (a0_3 : Int) (a0_4 : Int) (a0_5 : Int) (i3_6 : Int) (i4_1 : Int) : S := ⟨[(1, .c (.pt 0 0)), (3, .c (.s (.k .i64 i3_6))), (4, .c (.s (.k .i64 i4_1)))], [], [⟨.blk, 34, 1, 6, .c [.s (.k .i64 a0_0), .s (.k .i64 a0_1), .s (.k .i64 a0_2), .s (.k .i64 a0_3), .s (.k .i64 a0_4), .s (.k .i64 a0_5)]⟩]⟩
def rCount_l1_P (n : Nat) (a0_0 : Int) (a0_1 : Int) (a0_2 : Int) (a0_3 : Int) (a0_4 : Int) (a0_5 : Int) (r : Int) (fu : Nat) : S → Prop := fun s => ∃ (i3_6 : Int), ∃ (i4_1 : Int), s = rCount_l1_E a0_0 a0_1 a0_2 a0_3 a0_4 a0_5 i3_6 i4_1 ∧ rCount_l1 n a0_0 a0_1 a0_2 a0_3 a0_4 a0_5 fu i3_6 i4_1 = some r
theorem rCount_l1_M {n : Nat} {a0_0 : Int} {a0_1 : Int} {a0_2 : Int} {a0_3 : Int} {a0_4 : Int} {a0_5 : Int} {i3_6 : Int} {i4_1 : Int} {r : Int} {fu : Nat} (h : rCount_l1 n a0_0 a0_1 a0_2 a0_3 a0_4 a0_5 fu i3_6 i4_1 = some r) : rCount_l1_P n a0_0 a0_1 a0_2 a0_3 a0_4 a0_5 r fu (rCount_l1_E a0_0 a0_1 a0_2 a0_3 a0_4 a0_5 i3_6 i4_1) := ⟨i3_6, i4_1, rfl, h⟩
def rCount_R (r : Int) : S := ⟨[(2, .c (.s (.k .i64 r)))], [], []⟩
def rCount_ct (n : Nat) (r : Int) : Ct := fun args H => match args with
  | [x0] => (match aGc 6 x0 with | some y0 => (match aI (.c (y0.getD 0 .junk)) with | some l0_0 => (match aI (.c (y0.getD 1 .junk)) with | some l0_1 => (match aI (.c (y0.getD 2 .junk)) with | some l0_2 => (match aI (.c (y0.getD 3 .junk)) with | some l0_3 => (match aI (.c (y0.getD 4 .junk)) with | some l0_4 => (match aI (.c (y0.getD 5 .junk)) with | some l0_5 => some ([rCount n l0_0 l0_1 l0_2 l0_3 l0_4 l0_5 = some r], shA H.length (.c (.s (.k .i64 r))), shH H.length []) | none => none) | none => none) | none => none) | none => none) | none => none) | none => none) | none => none)
  | _ => none
theorem rCount_ok (n : Nat) (r : Int) : FnOk Try.prog Tr 22 (rCount_ct n r) := by
  refine ⟨fun args H g av objs hF hg ρ w vals hG hp ha => ?_, _, Try.func22, by kernel_rfl, by kernel_rfl⟩
  obtain ⟨x0, rfl⟩ : ∃ x0, args = [x0] := by
    unfold rCount_ct at hF; split at hF
    · exact ⟨_, rfl⟩
    · cases hF
  cases e0 : aGc 6 x0 with
  | none => simp only [rCount_ct, e0, reduceCtorEq] at hF
  | some y0 =>
  cases e1 : aI (.c (y0.getD 0 .junk)) with
  | none => simp only [rCount_ct, e0, e1, reduceCtorEq] at hF
  | some l0_0 =>
  cases e2 : aI (.c (y0.getD 1 .junk)) with
  | none => simp only [rCount_ct, e0, e1, e2, reduceCtorEq] at hF
  | some l0_1 =>
  cases e3 : aI (.c (y0.getD 2 .junk)) with
  | none => simp only [rCount_ct, e0, e1, e2, e3, reduceCtorEq] at hF
  | some l0_2 =>
  cases e4 : aI (.c (y0.getD 3 .junk)) with
  | none => simp only [rCount_ct, e0, e1, e2, e3, e4, reduceCtorEq] at hF
  | some l0_3 =>
  cases e5 : aI (.c (y0.getD 4 .junk)) with
  | none => simp only [rCount_ct, e0, e1, e2, e3, e4, e5, reduceCtorEq] at hF
  | some l0_4 =>
  cases e6 : aI (.c (y0.getD 5 .junk)) with
  | none => simp only [rCount_ct, e0, e1, e2, e3, e4, e5, e6, reduceCtorEq] at hF
  | some l0_5 =>
  simp only [rCount_ct, e0, e1, e2, e3, e4, e5, e6, Option.some.injEq, Prod.mk.injEq] at hF
  obtain ⟨rfl, rfl, rfl⟩ := hF
  obtain ⟨v0, vals, rfl, k0, ha⟩ := F2.inv ha
  obtain rfl := F2.inv0 ha
  have hI : ∀ w', Kp (noB (fun _ => undef)) w w' → Tr w' := fun _ hk => Tr.keep hk.below hG
  have h : rCount n l0_0 l0_1 l0_2 l0_3 l0_4 l0_5 = some r := hg
  obtain ⟨vs0, hn0, rfl, hy0⟩ := aGc_ok e0 k0
  have s0_0 := aI_ok e1 (hy0 0 (by decide))
  have s0_1 := aI_ok e2 (hy0 1 (by decide))
  have s0_2 := aI_ok e3 (hy0 2 (by decide))
  have s0_3 := aI_ok e4 (hy0 3 (by decide))
  have s0_4 := aI_ok e5 (hy0 4 (by decide))
  have s0_5 := aI_ok e6 (hy0 5 (by decide))
  have hR0 := rel0 (gv := (fun _ => undef)) (n := 50) (w := w) (args := [.g 6 (.c [.s (.k .i64 l0_0), .s (.k .i64 l0_1), .s (.k .i64 l0_2), .s (.k .i64 l0_3), .s (.k .i64 l0_4), .s (.k .i64 l0_5)])]) (H := []) (gl := []) (hpL (ps := []) F2.nil) (allRo_ok rfl) (F2.cons ⟨vs0, (by rw [lstE undef hn0]; exact (F2.cons s0_0 (F2.cons s0_1 (F2.cons s0_2 (F2.cons s0_3 (F2.cons s0_4 (F2.cons s0_5 F2.nil))))))), hn0, rfl⟩ F2.nil) GlR.nil (by simp)
  clear ha hp hg k0 e0 e1 e2 e3 e4 e5 e6
  refine calls_W Try.func22 rfl rfl hR0 (Q := fun e s => (e = .ret ∨ e = .normal) ∧ s = rCount_R r) ?_ ?_
  · clear hR0
    unfold rCount at h
    have hT := tabO_pc
    refine W_seq ?_
    refine W_reg hT ftL_nil [] [] [1] [0] (s' := ⟨[(1, .c (.pt 0 0))], [], [⟨.blk, 34, 1, 6, .c [.s (.k .i64 l0_0), .s (.k .i64 l0_1), .s (.k .i64 l0_2), .s (.k .i64 l0_3), .s (.k .i64 l0_4), .s (.k .i64 l0_5)]⟩]⟩) (by kernel_rfl) allP_nil ?_
    refine W_seq ?_
    refine W_reg hT ftL_nil [] [] [1, 3] [0] (s' := ⟨[(1, .c (.pt 0 0)), (3, .c (.s (.k .i64 0)))], [], [⟨.blk, 34, 1, 6, .c [.s (.k .i64 l0_0), .s (.k .i64 l0_1), .s (.k .i64 l0_2), .s (.k .i64 l0_3), .s (.k .i64 l0_4), .s (.k .i64 l0_5)]⟩]⟩) (by kernel_rfl) allP_nil ?_
    refine W_seq ?_
    refine W_seq ?_
    refine W_reg hT ftL_nil [] [] [1, 3, 4] [0] (s' := ⟨[(1, .c (.pt 0 0)), (3, .c (.s (.k .i64 0))), (4, .c (.s (.k .i64 1)))], [], [⟨.blk, 34, 1, 6, .c [.s (.k .i64 l0_0), .s (.k .i64 l0_1), .s (.k .i64 l0_2), .s (.k .i64 l0_3), .s (.k .i64 l0_4), .s (.k .i64 l0_5)]⟩]⟩) (by kernel_rfl) allP_nil ?_
    refine W_block ?_
    refine W_co [] [1, 3, 4] [0] (s' := (rCount_l1_E l0_0 l0_1 l0_2 l0_3 l0_4 l0_5 0 1)) (by kernel_rfl) (W_lp ((rCount_l1_P n l0_0 l0_1 l0_2 l0_3 l0_4 l0_5 r)) n (rCount_l1_M h) ?_)
    rintro fu_l1 _ ⟨i3_6, i4_1, rfl, h⟩
    cases fu_l1 with
    | zero => cases h
    | succ fu_l1 =>
      refine ⟨fu_l1, rfl, ?_⟩
      rw [rCount_l1] at h
      refine W_seq ?_
      refine W_seq ?_
      refine W_reg hT ftL_nil [] [] [1, 3, 4, 10] [0] (s' := ⟨[(1, .c (.pt 0 0)), (3, .c (.s (.k .i64 i3_6))), (4, .c (.s (.k .i64 i4_1))), (10, .c (.s (.b (decide (i4_1 < l0_0)))))], [], [⟨.blk, 34, 1, 6, .c [.s (.k .i64 l0_0), .s (.k .i64 l0_1), .s (.k .i64 l0_2), .s (.k .i64 l0_3), .s (.k .i64 l0_4), .s (.k .i64 l0_5)]⟩]⟩) (by kernel_rfl) allP_nil ?_
      refine W_cond (b := (decide (i4_1 < l0_0))) (by kernel_rfl) (fun g18 => ?_) (fun g18 => ?_)
      · replace h := bif_t h g18
        refine W_co [] [1, 3, 4] [0] (s' := ⟨[(1, .c (.pt 0 0)), (3, .c (.s (.k .i64 i3_6))), (4, .c (.s (.k .i64 i4_1)))], [], [⟨.blk, 34, 1, 6, .c [.s (.k .i64 l0_0), .s (.k .i64 l0_1), .s (.k .i64 l0_2), .s (.k .i64 l0_3), .s (.k .i64 l0_4), .s (.k .i64 l0_5)]⟩]⟩) (by kernel_rfl) (W_skip ?_)
        refine W_join (rCount_j1_P n l0_0 l0_1 l0_2 l0_3 l0_4 l0_5 i4_1 (rCount_l1 n l0_0 l0_1 l0_2 l0_3 l0_4 l0_5 fu_l1) r) ?_ ?_
        · rintro _ ⟨i3_8, rfl, h⟩
          unfold rCount_j1 at h
          obtain ⟨g1, h⟩ := gd_some h
          refine W_reg hT ftL_nil [] [] [1, 3, 4] [0] (s' := (rCount_l1_E l0_0 l0_1 l0_2 l0_3 l0_4 l0_5 i3_8 (i4_1 + 1))) (by kernel_rfl) (allP_cons.2 ⟨g1, allP_nil⟩) ?_
          exact rCount_l1_M h
        · refine W_block ?_
          refine W_seq ?_
          obtain ⟨g2, h⟩ := gd_some h
          refine W_reg hT ftL_nil [] [] [1, 3, 4] [0] (s' := ⟨[(1, .c (.pt 0 0)), (3, .c (.s (.k .i64 (i3_6 + 365)))), (4, .c (.s (.k .i64 i4_1)))], [], [⟨.blk, 34, 1, 6, .c [.s (.k .i64 l0_0), .s (.k .i64 l0_1), .s (.k .i64 l0_2), .s (.k .i64 l0_3), .s (.k .i64 l0_4), .s (.k .i64 l0_5)]⟩]⟩) (by kernel_rfl) (allP_cons.2 ⟨g2, allP_nil⟩) ?_
          refine W_seq ?_
          obtain ⟨r16_2, g3, h⟩ := bind_some' h
          refine W_reg hT (ftL_cons (k := 1) (f := 54) (F := (rLeap_ct n r16_2)) (rLeap_ok n r16_2) (fun _ _ => True.intro) ftL_nil) [] [] [1, 3, 4, 5] [0] (s' := ⟨[(1, .c (.pt 0 0)), (3, .c (.s (.k .i64 (i3_6 + 365)))), (4, .c (.s (.k .i64 i4_1))), (5, .c (.s (.b r16_2)))], [], [⟨.blk, 34, 1, 6, .c [.s (.k .i64 l0_0), .s (.k .i64 l0_1), .s (.k .i64 l0_2), .s (.k .i64 l0_3), .s (.k .i64 l0_4), .s (.k .i64 l0_5)]⟩]⟩) (by kernel_rfl) (allP_cons.2 ⟨g3, allP_nil⟩) ?_
          refine W_seq ?_
          refine W_reg hT ftL_nil [] [] [1, 3, 4, 17] [0] (s' := ⟨[(1, .c (.pt 0 0)), (3, .c (.s (.k .i64 (i3_6 + 365)))), (4, .c (.s (.k .i64 i4_1))), (17, .c (.s (.b r16_2)))], [], [⟨.blk, 34, 1, 6, .c [.s (.k .i64 l0_0), .s (.k .i64 l0_1), .s (.k .i64 l0_2), .s (.k .i64 l0_3), .s (.k .i64 l0_4), .s (.k .i64 l0_5)]⟩]⟩) (by kernel_rfl) allP_nil ?_
          refine W_cond (b := r16_2) (by kernel_rfl) (fun g5 => ?_) (fun g5 => ?_)
          · replace h := bif_t h g5
            obtain ⟨g4, h⟩ := gd_some h
            refine W_reg hT ftL_nil [] [] [1, 3, 4] [0] (s' := (rCount_j1_E l0_0 l0_1 l0_2 l0_3 l0_4 l0_5 i4_1 ((i3_6 + 365) + 1))) (by kernel_rfl) (allP_cons.2 ⟨g4, allP_nil⟩) ?_
            exact rCount_j1_M h
          · replace h := bif_f h g5
            refine W_co [] [1, 3, 4] [0] (s' := (rCount_j1_E l0_0 l0_1 l0_2 l0_3 l0_4 l0_5 i4_1 (i3_6 + 365))) (by kernel_rfl) (W_skip ?_)
            exact rCount_j1_M h
      · replace h := bif_f h g18
        refine W_co [] [1, 3] [0] (s' := ⟨[(1, .c (.pt 0 0)), (3, .c (.s (.k .i64 i3_6)))], [], [⟨.blk, 34, 1, 6, .c [.s (.k .i64 l0_0), .s (.k .i64 l0_1), .s (.k .i64 l0_2), .s (.k .i64 l0_3), .s (.k .i64 l0_4), .s (.k .i64 l0_5)]⟩]⟩) (by kernel_rfl) (W_exit ?_)
        refine W_seq ?_
        refine W_seq ?_
        refine W_reg hT ftL_nil [] [] [1, 3, 6] [0] (s' := ⟨[(1, .c (.pt 0 0)), (3, .c (.s (.k .i64 i3_6))), (6, .c (.s (.k .i64 1)))], [], [⟨.blk, 34, 1, 6, .c [.s (.k .i64 l0_0), .s (.k .i64 l0_1), .s (.k .i64 l0_2), .s (.k .i64 l0_3), .s (.k .i64 l0_4), .s (.k .i64 l0_5)]⟩]⟩) (by kernel_rfl) allP_nil ?_
        refine W_block ?_
        refine W_co [] [1, 3, 6] [0] (s' := (rCount_l2_E l0_0 l0_1 l0_2 l0_3 l0_4 l0_5 i3_6 1)) (by kernel_rfl) (W_lp ((rCount_l2_P n l0_0 l0_1 l0_2 l0_3 l0_4 l0_5 r)) n (rCount_l2_M h) ?_)
        rintro fu_l2 _ ⟨i3_9, i6_1, rfl, h⟩
        cases fu_l2 with
        | zero => cases h
        | succ fu_l2 =>
          refine ⟨fu_l2, rfl, ?_⟩
          rw [rCount_l2] at h
          refine W_seq ?_
          refine W_seq ?_
          refine W_reg hT ftL_nil [] [] [1, 3, 6, 23] [0] (s' := ⟨[(1, .c (.pt 0 0)), (3, .c (.s (.k .i64 i3_9))), (6, .c (.s (.k .i64 i6_1))), (23, .c (.s (.b (decide (i6_1 < l0_1)))))], [], [⟨.blk, 34, 1, 6, .c [.s (.k .i64 l0_0), .s (.k .i64 l0_1), .s (.k .i64 l0_2), .s (.k .i64 l0_3), .s (.k .i64 l0_4), .s (.k .i64 l0_5)]⟩]⟩) (by kernel_rfl) allP_nil ?_
          refine W_cond (b := (decide (i6_1 < l0_1))) (by kernel_rfl) (fun g17 => ?_) (fun g17 => ?_)
          · replace h := bif_t h g17
            refine W_co [] [1, 3, 6] [0] (s' := ⟨[(1, .c (.pt 0 0)), (3, .c (.s (.k .i64 i3_9))), (6, .c (.s (.k .i64 i6_1)))], [], [⟨.blk, 34, 1, 6, .c [.s (.k .i64 l0_0), .s (.k .i64 l0_1), .s (.k .i64 l0_2), .s (.k .i64 l0_3), .s (.k .i64 l0_4), .s (.k .i64 l0_5)]⟩]⟩) (by kernel_rfl) (W_skip ?_)
            refine W_seq ?_
            refine W_block ?_
            obtain ⟨r30_2, g6, h⟩ := bind_some' h
            obtain ⟨g7, h⟩ := gd_some h
            refine W_reg hT (ftL_cons (k := 4) (f := 53) (F := (rDays_ct n r30_2)) (rDays_ok n r30_2) (fun _ _ => True.intro) ftL_nil) [] [] [1, 3, 6] [0] (s' := ⟨[(1, .c (.pt 0 0)), (3, .c (.s (.k .i64 (i3_9 + r30_2)))), (6, .c (.s (.k .i64 i6_1)))], [], [⟨.blk, 34, 1, 6, .c [.s (.k .i64 l0_0), .s (.k .i64 l0_1), .s (.k .i64 l0_2), .s (.k .i64 l0_3), .s (.k .i64 l0_4), .s (.k .i64 l0_5)]⟩]⟩) (by kernel_rfl) (allP_cons.2 ⟨g6, (allP_cons.2 ⟨g7, allP_nil⟩)⟩) ?_
            obtain ⟨g8, h⟩ := gd_some h
            refine W_reg hT ftL_nil [] [] [1, 3, 6] [0] (s' := (rCount_l2_E l0_0 l0_1 l0_2 l0_3 l0_4 l0_5 (i3_9 + r30_2) (i6_1 + 1))) (by kernel_rfl) (allP_cons.2 ⟨g8, allP_nil⟩) ?_
            exact rCount_l2_M h
          · replace h := bif_f h g17
            refine W_co [] [1, 3] [0] (s' := ⟨[(1, .c (.pt 0 0)), (3, .c (.s (.k .i64 i3_9)))], [], [⟨.blk, 34, 1, 6, .c [.s (.k .i64 l0_0), .s (.k .i64 l0_1), .s (.k .i64 l0_2), .s (.k .i64 l0_3), .s (.k .i64 l0_4), .s (.k .i64 l0_5)]⟩]⟩) (by kernel_rfl) (W_exit ?_)
            refine W_seq ?_
            obtain ⟨g9, h⟩ := gd_some h
            obtain ⟨g10, h⟩ := gd_some h
            refine W_reg hT ftL_nil [] [] [1, 3] [0] (s' := ⟨[(1, .c (.pt 0 0)), (3, .c (.s (.k .i64 ((i3_9 + l0_2) - 1))))], [], [⟨.blk, 34, 1, 6, .c [.s (.k .i64 l0_0), .s (.k .i64 l0_1), .s (.k .i64 l0_2), .s (.k .i64 l0_3), .s (.k .i64 l0_4), .s (.k .i64 l0_5)]⟩]⟩) (by kernel_rfl) (allP_cons.2 ⟨g9, (allP_cons.2 ⟨g10, allP_nil⟩)⟩) ?_
            refine W_seq ?_
            obtain ⟨g11, h⟩ := gd_some h
            obtain ⟨g12, h⟩ := gd_some h
            obtain ⟨g13, h⟩ := gd_some h
            obtain ⟨g14, h⟩ := gd_some h
            obtain ⟨g15, h⟩ := gd_some h
            obtain ⟨g16, h⟩ := gd_some h
            refine W_reg hT ftL_nil [] [] [2] [] (s' := ⟨[(2, .c (.s (.k .i64 ((((((i3_9 + l0_2) - 1) * 86400) + (l0_3 * 3600)) + (l0_4 * 60)) + l0_5))))], [], []⟩) (by kernel_rfl) (allP_cons.2 ⟨g11, (allP_cons.2 ⟨g12, (allP_cons.2 ⟨g13, (allP_cons.2 ⟨g14, (allP_cons.2 ⟨g15, (allP_cons.2 ⟨g16, allP_nil⟩)⟩)⟩)⟩)⟩)⟩) ?_
            refine W_co [] [2] [] (s' := (rCount_R ((((((i3_9 + l0_2) - 1) * 86400) + (l0_3 * 3600)) + (l0_4 * 60)) + l0_5))) (by kernel_rfl) (W_ret ?_)
            exact ⟨.inl rfl, by cases h; rfl⟩
  · rintro e s' ⟨he, rfl⟩
    refine ⟨he, fun a' w' hr => ?_⟩
    exact retS_ok tabO_pc hr (rs := [.tmp 2]) rfl (objs := []) (by kernel_rfl)
def pAt_l1_E (a0 : Int) (i6_4 : Int) (i7_1 : Int) (i8_1 : Int) : S := ⟨[(2, .c (.pt 0 0)), (5, .c (.s (.k .i64 (Int.tmod a0 86400)))), (6, .c (.s (.k .i64 i6_4))), (7, .c (.s (.k .i64 i7_1))), (8, .c (.s (.k .i64 i8_1)))], [], [⟨.blk, 34, 1, 6, .c [.s (.k .i64 0), .s (.k .i64 0), .s (.k .i64 0), .s (.k .i64 0), .s (.k .i64 0), .s (.k .i64 0)]⟩]⟩
def pAt_l1_P (n : Nat) (a0 : Int) (i6_4 : Int) (r : Int × Int × Int × Int × Int × Int × Option Int) (fu : Nat) : S → Prop := fun s => ∃ (i7_1 : Int), ∃ (i8_1 : Int), s = pAt_l1_E a0 i6_4 i7_1 i8_1 ∧ pAt_l1 n a0 i6_4 fu i7_1 i8_1 = some r
theorem pAt_l1_M {n : Nat} {a0 : Int} {i6_4 : Int} {i7_1 : Int} {i8_1 : Int} {r : Int × Int × Int × Int × Int × Int × Option Int} {fu : Nat} (h : pAt_l1 n a0 i6_4 fu i7_1 i8_1 = some r) : pAt_l1_P n a0 i6_4 r fu (pAt_l1_E a0 i6_4 i7_1 i8_1) := ⟨i7_1, i8_1, rfl, h⟩
def pAt_j1_E (a0 : Int) (i6_4 : Int) : S := ⟨[(2, .c (.pt 0 0)), (4, .c (.s (.k .i64 (Int.tdiv a0 86400)))), (5, .c (.s (.k .i64 (Int.tmod a0 86400)))), (6, .c (.s (.k .i64 i6_4)))], [], [⟨.blk, 34, 1, 6, .c [.s (.k .i64 0), .s (.k .i64 0), .s (.k .i64 0), .s (.k .i64 0), .s (.k .i64 0), .s (.k .i64 0)]⟩]⟩
def pAt_j1_P (n : Nat) (a0 : Int) (r : Int × Int × Int × Int × Int × Int × Option Int) : S → Prop := fun s => ∃ (i6_4 : Int), s = pAt_j1_E a0 i6_4 ∧ pAt_j1 n a0 i6_4 = some r
theorem pAt_j1_M {n : Nat} {a0 : Int} {i6_4 : Int} {r : Int × Int × Int × Int × Int × Int × Option Int} (h : pAt_j1 n a0 i6_4 = some r) : pAt_j1_P n a0 r (pAt_j1_E a0 i6_4) := ⟨i6_4, rfl, h⟩
def pAt_l2_E (a0 : Int) (i6_5 : Int) : S := ⟨[(2, .c (.pt 0 0)), (4, .c (.s (.k .i64 (Int.tdiv a0 86400)))), (5, .c (.s (.k .i64 (Int.tmod a0 86400)))), (6, .c (.s (.k .i64 i6_5)))], [], [⟨.blk, 34, 1, 6, .c [.s (.k .i64 0), .s (.k .i64 0), .s (.k .i64 0), .s (.k .i64 0), .s (.k .i64 0), .s (.k .i64 0)]⟩]⟩
def pAt_l2_P (n : Nat) (a0 : Int) (r : Int × Int × Int × Int × Int × Int × Option Int) (fu : Nat) : S → Prop := fun s => ∃ (i6_5 : Int), s = pAt_l2_E a0 i6_5 ∧ pAt_l2 n a0 fu i6_5 = some r
theorem pAt_l2_M {n : Nat} {a0 : Int} {i6_5 : Int} {r : Int × Int × Int × Int × Int × Int × Option Int} {fu : Nat} (h : pAt_l2 n a0 fu i6_5 = some r) : pAt_l2_P n a0 r fu (pAt_l2_E a0 i6_5) := ⟨i6_5, rfl, h⟩
def pAt_R (r : Int × Int × Int × Int × Int × Int × Option Int) : S := ⟨[(2, .c (.pt 0 0)), (3, .c (.s (.er 31 .i64 r.2.2.2.2.2.2)))], [], [⟨.blk, 34, 1, 6, .c [.s (.k .i64 r.1), .s (.k .i64 r.2.1), .s (.k .i64 r.2.2.1), .s (.k .i64 r.2.2.2.1), .s (.k .i64 r.2.2.2.2.1), .s (.k .i64 r.2.2.2.2.2.1)]⟩]⟩
def pAt_ct (n : Nat) (r : Int × Int × Int × Int × Int × Int × Option Int) : Ct := fun args H => match args with
  | [x0] => (match aI x0 with | some l0 => some ([pAt n l0 = some r], shA H.length (.t [.g 6 (.c [.s (.k .i64 r.1), .s (.k .i64 r.2.1), .s (.k .i64 r.2.2.1), .s (.k .i64 r.2.2.2.1), .s (.k .i64 r.2.2.2.2.1), .s (.k .i64 r.2.2.2.2.2.1)]), .c (.s (.er 31 .i64 r.2.2.2.2.2.2))]), shH H.length []) | none => none)
  | _ => none
theorem pAt_ok (n : Nat) (r : Int × Int × Int × Int × Int × Int × Option Int) : FnOk Try.prog Tr 23 (pAt_ct n r) := by
  refine ⟨fun args H g av objs hF hg ρ w vals hG hp ha => ?_, _, Try.func23, by kernel_rfl, by kernel_rfl⟩
  obtain ⟨x0, rfl⟩ : ∃ x0, args = [x0] := by
    unfold pAt_ct at hF; split at hF
    · exact ⟨_, rfl⟩
    · cases hF
  cases e0 : aI x0 with
  | none => simp only [pAt_ct, e0, reduceCtorEq] at hF
  | some l0 =>
  simp only [pAt_ct, e0, Option.some.injEq, Prod.mk.injEq] at hF
  obtain ⟨rfl, rfl, rfl⟩ := hF
  obtain ⟨v0, vals, rfl, k0, ha⟩ := F2.inv ha
  obtain rfl := F2.inv0 ha
  have hI : ∀ w', Kp (noB (fun _ => undef)) w w' → Tr w' := fun _ hk => Tr.keep hk.below hG
  have h : pAt n l0 = some r := hg
  have s0 := aI_ok e0 (k0)
  have hR0 := rel0 (gv := (fun _ => undef)) (n := 61) (w := w) (args := [.c (.s (.k .i64 l0))]) (H := []) (gl := []) (hpL (ps := []) F2.nil) (allRo_ok rfl) (F2.cons s0 F2.nil) GlR.nil (by simp)
  clear ha hp hg k0 e0
  refine calls_W Try.func23 rfl rfl hR0 (Q := fun e s => (e = .ret ∨ e = .normal) ∧ s = pAt_R r) ?_ ?_
  · clear hR0
    unfold pAt at h
    have hT := tabO_pc
    refine W_seq ?_
    refine W_reg hT ftL_nil [] [] [0, 2] [0] (s' := ⟨[(0, .c (.s (.k .i64 l0))), (2, .c (.pt 0 0))], [], [⟨.blk, 34, 1, 6, .c [.s (.k .i64 0), .s (.k .i64 0), .s (.k .i64 0), .s (.k .i64 0), .s (.k .i64 0), .s (.k .i64 0)]⟩]⟩) (by kernel_rfl) allP_nil ?_
    refine W_seq ?_
    refine W_seq ?_
    rcases Bool.eq_false_or_eq_true (decide (l0 < (0 : Int))) with g1 | g1
    · replace h := bif_t h g1
      refine W_reg hT ftL_nil [(2, true)] [] [0, 2, 16] [0] (s' := ⟨[(0, .c (.s (.k .i64 l0))), (2, .c (.pt 0 0)), (16, .c (.s (.b true)))], [], [⟨.blk, 34, 1, 6, .c [.s (.k .i64 0), .s (.k .i64 0), .s (.k .i64 0), .s (.k .i64 0), .s (.k .i64 0), .s (.k .i64 0)]⟩]⟩) (by kernel_rfl) (allP_cons.2 ⟨g1, allP_nil⟩) ?_
      refine W_cond (b := true) (by kernel_rfl) (fun _ => ?_) (fun hb => by cases hb)
      refine W_seq ?_
      refine W_reg hT ftL_nil [] [] [2, 3] [0] (s' := ⟨[(2, .c (.pt 0 0)), (3, .c (.s (.er 31 .i64 (some 1))))], [], [⟨.blk, 34, 1, 6, .c [.s (.k .i64 0), .s (.k .i64 0), .s (.k .i64 0), .s (.k .i64 0), .s (.k .i64 0), .s (.k .i64 0)]⟩]⟩) (by kernel_rfl) allP_nil ?_
      refine W_co [] [2, 3] [0] (s' := (pAt_R (0, 0, 0, 0, 0, 0, (some 1)))) (by kernel_rfl) (W_ret ?_)
      exact ⟨.inl rfl, by cases h; rfl⟩
    · replace h := bif_f h g1
      obtain ⟨r13, g2, h⟩ := bind_some' h
      obtain ⟨g3, h⟩ := gd_some h
      refine W_reg hT (ftL_cons (k := 4) (f := 51) (F := (pahead_ct n r13)) (pahead_ok n r13) (fun _ _ => True.intro) ftL_nil) [(2, false)] [] [0, 2, 16] [0] (s' := ⟨[(0, .c (.s (.k .i64 l0))), (2, .c (.pt 0 0)), (16, .c (.s (.b (decide ((r13 * 86400) ≤ l0)))))], [], [⟨.blk, 34, 1, 6, .c [.s (.k .i64 0), .s (.k .i64 0), .s (.k .i64 0), .s (.k .i64 0), .s (.k .i64 0), .s (.k .i64 0)]⟩]⟩) (by kernel_rfl) (allP_cons.2 ⟨g1, (allP_cons.2 ⟨g2, (allP_cons.2 ⟨g3, allP_nil⟩)⟩)⟩) ?_
      refine W_cond (b := (decide ((r13 * 86400) ≤ l0))) (by kernel_rfl) (fun g28 => ?_) (fun g28 => ?_)
      · replace h := bif_t h g28
        refine W_seq ?_
        refine W_reg hT ftL_nil [] [] [2, 3] [0] (s' := ⟨[(2, .c (.pt 0 0)), (3, .c (.s (.er 31 .i64 (some 1))))], [], [⟨.blk, 34, 1, 6, .c [.s (.k .i64 0), .s (.k .i64 0), .s (.k .i64 0), .s (.k .i64 0), .s (.k .i64 0), .s (.k .i64 0)]⟩]⟩) (by kernel_rfl) allP_nil ?_
        refine W_co [] [2, 3] [0] (s' := (pAt_R (0, 0, 0, 0, 0, 0, (some 1)))) (by kernel_rfl) (W_ret ?_)
        exact ⟨.inl rfl, by cases h; rfl⟩
      · replace h := bif_f h g28
        refine W_co [] [0, 2] [0] (s' := ⟨[(0, .c (.s (.k .i64 l0))), (2, .c (.pt 0 0))], [], [⟨.blk, 34, 1, 6, .c [.s (.k .i64 0), .s (.k .i64 0), .s (.k .i64 0), .s (.k .i64 0), .s (.k .i64 0), .s (.k .i64 0)]⟩]⟩) (by kernel_rfl) (W_skip ?_)
        refine W_seq ?_
        obtain ⟨g4, h⟩ := gd_some h
        obtain ⟨g5, h⟩ := gd_some h
        obtain ⟨g6, h⟩ := gd_some h
        refine W_reg hT ftL_nil [] [] [2, 4, 5] [0] (s' := ⟨[(2, .c (.pt 0 0)), (4, .c (.s (.k .i64 (Int.tdiv l0 86400)))), (5, .c (.s (.k .i64 (Int.tmod l0 86400))))], [], [⟨.blk, 34, 1, 6, .c [.s (.k .i64 0), .s (.k .i64 0), .s (.k .i64 0), .s (.k .i64 0), .s (.k .i64 0), .s (.k .i64 0)]⟩]⟩) (by kernel_rfl) (allP_cons.2 ⟨g4, (allP_cons.2 ⟨g5, (allP_cons.2 ⟨g6, allP_nil⟩)⟩)⟩) ?_
        refine W_seq ?_
        obtain ⟨g7, h⟩ := gd_some h
        obtain ⟨g8, h⟩ := gd_some h
        obtain ⟨g9, h⟩ := gd_some h
        refine W_reg hT ftL_nil [] [] [2, 4, 5, 6] [0] (s' := ⟨[(2, .c (.pt 0 0)), (4, .c (.s (.k .i64 (Int.tdiv l0 86400)))), (5, .c (.s (.k .i64 (Int.tmod l0 86400)))), (6, .c (.s (.k .i64 ((Int.tdiv (Int.tdiv l0 86400) 366) + 1))))], [], [⟨.blk, 34, 1, 6, .c [.s (.k .i64 0), .s (.k .i64 0), .s (.k .i64 0), .s (.k .i64 0), .s (.k .i64 0), .s (.k .i64 0)]⟩]⟩) (by kernel_rfl) (allP_cons.2 ⟨g7, (allP_cons.2 ⟨g8, (allP_cons.2 ⟨g9, allP_nil⟩)⟩)⟩) ?_
        refine W_join (pAt_j1_P n l0 r) ?_ ?_
        · rintro _ ⟨i6_4, rfl, h⟩
          unfold pAt_j1 at h
          refine W_seq ?_
          obtain ⟨r35_1, g10, h⟩ := bind_some' h
          obtain ⟨g11, h⟩ := gd_some h
          refine W_reg hT (ftL_cons (k := 2) (f := 51) (F := (pahead_ct n r35_1)) (pahead_ok n r35_1) (fun _ _ => True.intro) ftL_nil) [] [] [2, 5, 6, 7, 8] [0] (s' := ⟨[(2, .c (.pt 0 0)), (5, .c (.s (.k .i64 (Int.tmod l0 86400)))), (6, .c (.s (.k .i64 i6_4))), (7, .c (.s (.k .i64 ((Int.tdiv l0 86400) - r35_1)))), (8, .c (.s (.k .i64 1)))], [], [⟨.blk, 34, 1, 6, .c [.s (.k .i64 0), .s (.k .i64 0), .s (.k .i64 0), .s (.k .i64 0), .s (.k .i64 0), .s (.k .i64 0)]⟩]⟩) (by kernel_rfl) (allP_cons.2 ⟨g10, (allP_cons.2 ⟨g11, allP_nil⟩)⟩) ?_
          refine W_seq ?_
          refine W_block ?_
          refine W_co [] [2, 5, 6, 7, 8] [0] (s' := (pAt_l1_E l0 i6_4 ((Int.tdiv l0 86400) - r35_1) 1)) (by kernel_rfl) (W_lp ((pAt_l1_P n l0 i6_4 r)) n (pAt_l1_M h) ?_)
          rintro fu_l1 _ ⟨i7_1, i8_1, rfl, h⟩
          cases fu_l1 with
          | zero => cases h
          | succ fu_l1 =>
            refine ⟨fu_l1, rfl, ?_⟩
            rw [pAt_l1] at h
            refine W_seq ?_
            refine W_seq ?_
            obtain ⟨r40_3, g12, h⟩ := bind_some' h
            refine W_reg hT (ftL_cons (k := 3) (f := 52) (F := (pdays_ct n r40_3)) (pdays_ok n r40_3) (fun _ _ => True.intro) ftL_nil) [] [] [2, 5, 6, 7, 8, 41] [0] (s' := ⟨[(2, .c (.pt 0 0)), (5, .c (.s (.k .i64 (Int.tmod l0 86400)))), (6, .c (.s (.k .i64 i6_4))), (7, .c (.s (.k .i64 i7_1))), (8, .c (.s (.k .i64 i8_1))), (41, .c (.s (.b (decide (r40_3 ≤ i7_1)))))], [], [⟨.blk, 34, 1, 6, .c [.s (.k .i64 0), .s (.k .i64 0), .s (.k .i64 0), .s (.k .i64 0), .s (.k .i64 0), .s (.k .i64 0)]⟩]⟩) (by kernel_rfl) (allP_cons.2 ⟨g12, allP_nil⟩) ?_
            refine W_cond (b := (decide (r40_3 ≤ i7_1))) (by kernel_rfl) (fun g23 => ?_) (fun g23 => ?_)
            · replace h := bif_t h g23
              refine W_co [] [2, 5, 6, 7, 8] [0] (s' := ⟨[(2, .c (.pt 0 0)), (5, .c (.s (.k .i64 (Int.tmod l0 86400)))), (6, .c (.s (.k .i64 i6_4))), (7, .c (.s (.k .i64 i7_1))), (8, .c (.s (.k .i64 i8_1)))], [], [⟨.blk, 34, 1, 6, .c [.s (.k .i64 0), .s (.k .i64 0), .s (.k .i64 0), .s (.k .i64 0), .s (.k .i64 0), .s (.k .i64 0)]⟩]⟩) (by kernel_rfl) (W_skip ?_)
              refine W_block ?_
              refine W_seq ?_
              obtain ⟨r45_3, g13, h⟩ := bind_some' h
              obtain ⟨g14, h⟩ := gd_some h
              refine W_reg hT (ftL_cons (k := 3) (f := 52) (F := (pdays_ct n r45_3)) (pdays_ok n r45_3) (fun _ _ => True.intro) ftL_nil) [] [] [2, 5, 6, 7, 8] [0] (s' := ⟨[(2, .c (.pt 0 0)), (5, .c (.s (.k .i64 (Int.tmod l0 86400)))), (6, .c (.s (.k .i64 i6_4))), (7, .c (.s (.k .i64 (i7_1 - r45_3)))), (8, .c (.s (.k .i64 i8_1)))], [], [⟨.blk, 34, 1, 6, .c [.s (.k .i64 0), .s (.k .i64 0), .s (.k .i64 0), .s (.k .i64 0), .s (.k .i64 0), .s (.k .i64 0)]⟩]⟩) (by kernel_rfl) (allP_cons.2 ⟨g13, (allP_cons.2 ⟨g14, allP_nil⟩)⟩) ?_
              obtain ⟨g15, h⟩ := gd_some h
              refine W_reg hT ftL_nil [] [] [2, 5, 6, 7, 8] [0] (s' := (pAt_l1_E l0 i6_4 (i7_1 - r45_3) (i8_1 + 1))) (by kernel_rfl) (allP_cons.2 ⟨g15, allP_nil⟩) ?_
              exact pAt_l1_M h
            · replace h := bif_f h g23
              refine W_co [] [2, 5, 6, 7, 8] [0] (s' := ⟨[(2, .c (.pt 0 0)), (5, .c (.s (.k .i64 (Int.tmod l0 86400)))), (6, .c (.s (.k .i64 i6_4))), (7, .c (.s (.k .i64 i7_1))), (8, .c (.s (.k .i64 i8_1)))], [], [⟨.blk, 34, 1, 6, .c [.s (.k .i64 0), .s (.k .i64 0), .s (.k .i64 0), .s (.k .i64 0), .s (.k .i64 0), .s (.k .i64 0)]⟩]⟩) (by kernel_rfl) (W_exit ?_)
              refine W_seq ?_
              obtain ⟨g16, h⟩ := gd_some h
              obtain ⟨g17, h⟩ := gd_some h
              obtain ⟨g18, h⟩ := gd_some h
              obtain ⟨g19, h⟩ := gd_some h
              obtain ⟨g20, h⟩ := gd_some h
              obtain ⟨g21, h⟩ := gd_some h
              obtain ⟨g22, h⟩ := gd_some h
              refine W_reg hT ftL_nil [] [] [2, 3] [0] (s' := ⟨[(2, .c (.pt 0 0)), (3, .c (.s (.v .nilIface)))], [], [⟨.blk, 34, 1, 6, .c [.s (.k .i64 i6_4), .s (.k .i64 i8_1), .s (.k .i64 (i7_1 + 1)), .s (.k .i64 (Int.tdiv (Int.tmod l0 86400) 3600)), .s (.k .i64 (Int.tmod (Int.tdiv (Int.tmod l0 86400) 60) 60)), .s (.k .i64 (Int.tmod (Int.tmod l0 86400) 60))]⟩]⟩) (by kernel_rfl) (allP_cons.2 ⟨g16, (allP_cons.2 ⟨g17, (allP_cons.2 ⟨g18, (allP_cons.2 ⟨g19, (allP_cons.2 ⟨g20, (allP_cons.2 ⟨g21, (allP_cons.2 ⟨g22, allP_nil⟩)⟩)⟩)⟩)⟩)⟩)⟩) ?_
              refine W_co [.er 3 31 .i64] [2, 3] [0] (s' := (pAt_R (i6_4, i8_1, (i7_1 + 1), (Int.tdiv (Int.tmod l0 86400) 3600), (Int.tmod (Int.tdiv (Int.tmod l0 86400) 60) 60), (Int.tmod (Int.tmod l0 86400) 60), none))) (by kernel_rfl) (W_ret ?_)
              exact ⟨.inl rfl, by cases h; rfl⟩
        · refine W_block ?_
          refine W_co [] [2, 4, 5, 6] [0] (s' := (pAt_l2_E l0 ((Int.tdiv (Int.tdiv l0 86400) 366) + 1))) (by kernel_rfl) (W_lp ((pAt_l2_P n l0 r)) n (pAt_l2_M h) ?_)
          rintro fu_l2 _ ⟨i6_5, rfl, h⟩
          cases fu_l2 with
          | zero => cases h
          | succ fu_l2 =>
            refine ⟨fu_l2, rfl, ?_⟩
            rw [pAt_l2] at h
            refine W_seq ?_
            refine W_seq ?_
            obtain ⟨g24, h⟩ := gd_some h
            obtain ⟨r28_4, g25, h⟩ := bind_some' h
            refine W_reg hT (ftL_cons (k := 2) (f := 51) (F := (pahead_ct n r28_4)) (pahead_ok n r28_4) (fun _ _ => True.intro) ftL_nil) [] [] [2, 4, 5, 6, 30] [0] (s' := ⟨[(2, .c (.pt 0 0)), (4, .c (.s (.k .i64 (Int.tdiv l0 86400)))), (5, .c (.s (.k .i64 (Int.tmod l0 86400)))), (6, .c (.s (.k .i64 i6_5))), (30, .c (.s (.b (decide (r28_4 ≤ (Int.tdiv l0 86400))))))], [], [⟨.blk, 34, 1, 6, .c [.s (.k .i64 0), .s (.k .i64 0), .s (.k .i64 0), .s (.k .i64 0), .s (.k .i64 0), .s (.k .i64 0)]⟩]⟩) (by kernel_rfl) (allP_cons.2 ⟨g24, (allP_cons.2 ⟨g25, allP_nil⟩)⟩) ?_
            refine W_cond (b := (decide (r28_4 ≤ (Int.tdiv l0 86400)))) (by kernel_rfl) (fun g27 => ?_) (fun g27 => ?_)
            · replace h := bif_t h g27
              refine W_co [] [2, 4, 5, 6] [0] (s' := ⟨[(2, .c (.pt 0 0)), (4, .c (.s (.k .i64 (Int.tdiv l0 86400)))), (5, .c (.s (.k .i64 (Int.tmod l0 86400)))), (6, .c (.s (.k .i64 i6_5)))], [], [⟨.blk, 34, 1, 6, .c [.s (.k .i64 0), .s (.k .i64 0), .s (.k .i64 0), .s (.k .i64 0), .s (.k .i64 0), .s (.k .i64 0)]⟩]⟩) (by kernel_rfl) (W_skip ?_)
              refine W_block ?_
              obtain ⟨g26, h⟩ := gd_some h
              refine W_reg hT ftL_nil [] [] [2, 4, 5, 6] [0] (s' := (pAt_l2_E l0 (i6_5 + 1))) (by kernel_rfl) (allP_cons.2 ⟨g26, allP_nil⟩) ?_
              exact pAt_l2_M h
            · replace h := bif_f h g27
              refine W_co [] [2, 4, 5, 6] [0] (s' := (pAt_j1_E l0 i6_5)) (by kernel_rfl) (W_exit ?_)
              exact pAt_j1_M h
  · rintro e s' ⟨he, rfl⟩
    refine ⟨he, fun a' w' hr => ?_⟩
    exact retS_ok tabO_pc hr (rs := [.cell 2 34, .tmp 3]) rfl (objs := []) (by kernel_rfl)
def lCounts_R (r : Bool) : S := ⟨[(4, .c (.s (.b r)))], [], []⟩
def lCounts_ct (n : Nat) (r : Bool) : Ct := fun args H => match args with
  | [x0, x1] => (match aGc 6 x0 with | some y0 => (match aI (.c (y0.getD 0 .junk)) with | some l0_0 => (match aI (.c (y0.getD 1 .junk)) with | some l0_1 => (match aI (.c (y0.getD 2 .junk)) with | some l0_2 => (match aI (.c (y0.getD 3 .junk)) with | some l0_3 => (match aI (.c (y0.getD 4 .junk)) with | some l0_4 => (match aI (.c (y0.getD 5 .junk)) with | some l0_5 => (match aI x1 with | some l1 => some ([lCounts n l0_0 l0_1 l0_2 l0_3 l0_4 l0_5 l1 = some r], shA H.length (.c (.s (.b r))), shH H.length []) | none => none) | none => none) | none => none) | none => none) | none => none) | none => none) | none => none) | none => none)
  | _ => none
theorem lCounts_ok (n : Nat) (r : Bool) : FnOk Try.prog Tr 5 (lCounts_ct n r) := by
  refine ⟨fun args H g av objs hF hg ρ w vals hG hp ha => ?_, _, Try.func5, by kernel_rfl, by kernel_rfl⟩
  obtain ⟨x0, x1, rfl⟩ : ∃ x0 x1, args = [x0, x1] := by
    unfold lCounts_ct at hF; split at hF
    · exact ⟨_, _, rfl⟩
    · cases hF
  cases e0 : aGc 6 x0 with
  | none => simp only [lCounts_ct, e0, reduceCtorEq] at hF
  | some y0 =>
  cases e1 : aI (.c (y0.getD 0 .junk)) with
  | none => simp only [lCounts_ct, e0, e1, reduceCtorEq] at hF
  | some l0_0 =>
  cases e2 : aI (.c (y0.getD 1 .junk)) with
  | none => simp only [lCounts_ct, e0, e1, e2, reduceCtorEq] at hF
  | some l0_1 =>
  cases e3 : aI (.c (y0.getD 2 .junk)) with
  | none => simp only [lCounts_ct, e0, e1, e2, e3, reduceCtorEq] at hF
  | some l0_2 =>
  cases e4 : aI (.c (y0.getD 3 .junk)) with
  | none => simp only [lCounts_ct, e0, e1, e2, e3, e4, reduceCtorEq] at hF
  | some l0_3 =>
  cases e5 : aI (.c (y0.getD 4 .junk)) with
  | none => simp only [lCounts_ct, e0, e1, e2, e3, e4, e5, reduceCtorEq] at hF
  | some l0_4 =>
  cases e6 : aI (.c (y0.getD 5 .junk)) with
  | none => simp only [lCounts_ct, e0, e1, e2, e3, e4, e5, e6, reduceCtorEq] at hF
  | some l0_5 =>
  cases e7 : aI x1 with
  | none => simp only [lCounts_ct, e0, e1, e2, e3, e4, e5, e6, e7, reduceCtorEq] at hF
  | some l1 =>
  simp only [lCounts_ct, e0, e1, e2, e3, e4, e5, e6, e7, Option.some.injEq, Prod.mk.injEq] at hF
  obtain ⟨rfl, rfl, rfl⟩ := hF
  obtain ⟨v0, vals, rfl, k0, ha⟩ := F2.inv ha
  obtain ⟨v1, vals, rfl, k1, ha⟩ := F2.inv ha
  obtain rfl := F2.inv0 ha
  have hI : ∀ w', Kp (noB (fun _ => undef)) w w' → Tr w' := fun _ hk => Tr.keep hk.below hG
  have h : lCounts n l0_0 l0_1 l0_2 l0_3 l0_4 l0_5 l1 = some r := hg
  obtain ⟨vs0, hn0, rfl, hy0⟩ := aGc_ok e0 k0
  have s0_0 := aI_ok e1 (hy0 0 (by decide))
  have s0_1 := aI_ok e2 (hy0 1 (by decide))
  have s0_2 := aI_ok e3 (hy0 2 (by decide))
  have s0_3 := aI_ok e4 (hy0 3 (by decide))
  have s0_4 := aI_ok e5 (hy0 4 (by decide))
  have s0_5 := aI_ok e6 (hy0 5 (by decide))
  have s1 := aI_ok e7 (k1)
  have hR0 := rel0 (gv := (fun _ => undef)) (n := 86) (w := w) (args := [.g 6 (.c [.s (.k .i64 l0_0), .s (.k .i64 l0_1), .s (.k .i64 l0_2), .s (.k .i64 l0_3), .s (.k .i64 l0_4), .s (.k .i64 l0_5)]), .c (.s (.k .i64 l1))]) (H := []) (gl := []) (hpL (ps := []) F2.nil) (allRo_ok rfl) (F2.cons ⟨vs0, (by rw [lstE undef hn0]; exact (F2.cons s0_0 (F2.cons s0_1 (F2.cons s0_2 (F2.cons s0_3 (F2.cons s0_4 (F2.cons s0_5 F2.nil))))))), hn0, rfl⟩ (F2.cons s1 F2.nil)) GlR.nil (by simp)
  clear ha hp hg k0 k1 e0 e1 e2 e3 e4 e5 e6 e7
  refine calls_W Try.func5 rfl rfl hR0 (Q := fun e s => (e = .ret ∨ e = .normal) ∧ s = lCounts_R r) ?_ ?_
  · clear hR0
    unfold lCounts at h
    have hT := tabO_pc
    refine W_seq ?_
    refine W_reg hT ftL_nil [] [] [1, 2] [0] (s' := ⟨[(1, .c (.s (.k .i64 l1))), (2, .c (.pt 0 0))], [], [⟨.blk, 34, 1, 6, .c [.s (.k .i64 l0_0), .s (.k .i64 l0_1), .s (.k .i64 l0_2), .s (.k .i64 l0_3), .s (.k .i64 l0_4), .s (.k .i64 l0_5)]⟩]⟩) (by kernel_rfl) allP_nil ?_
    refine W_seq ?_
    obtain ⟨r13, g1, h⟩ := bind_some' h
    refine W_reg hT (ftL_cons (k := 0) (f := 14) (F := (pup_ct n r13)) (pup_ok n r13) (fun _ _ => True.intro) ftL_nil) [] [] [1, 2, 5] [0] (s' := ⟨[(1, .c (.s (.k .i64 l1))), (2, .c (.pt 0 0)), (5, .c (.s (.b r13)))], [], [⟨.blk, 34, 1, 6, .c [.s (.k .i64 l0_0), .s (.k .i64 l0_1), .s (.k .i64 l0_2), .s (.k .i64 l0_3), .s (.k .i64 l0_4), .s (.k .i64 l0_5)]⟩]⟩) (by kernel_rfl) (allP_cons.2 ⟨g1, allP_nil⟩) ?_
    refine W_seq ?_
    obtain ⟨r16, g2, h⟩ := bind_some' h
    refine W_reg hT (ftL_cons (k := 1) (f := 19) (F := (pCount_ct n r16)) (pCount_ok n r16) (fun _ _ => True.intro) ftL_nil) [] [] [1, 2, 5, 6, 7] [0] (s' := ⟨[(1, .c (.s (.k .i64 l1))), (2, .c (.pt 0 0)), (5, .c (.s (.b r13))), (6, .c (.s (.k .i64 r16.1))), (7, .c (.s (.er 31 .i64 r16.2)))], [], [⟨.blk, 34, 1, 6, .c [.s (.k .i64 l0_0), .s (.k .i64 l0_1), .s (.k .i64 l0_2), .s (.k .i64 l0_3), .s (.k .i64 l0_4), .s (.k .i64 l0_5)]⟩]⟩) (by kernel_rfl) (allP_cons.2 ⟨g2, allP_nil⟩) ?_
    refine W_seq ?_
    obtain ⟨r20, g3, h⟩ := bind_some' h
    refine W_reg hT (ftL_cons (k := 1) (f := 21) (F := (rMay8_ct n r20)) (rMay8_ok n r20) (fun _ _ => True.intro) ftL_nil) [] [] [1, 2, 5, 6, 7, 8] [0] (s' := ⟨[(1, .c (.s (.k .i64 l1))), (2, .c (.pt 0 0)), (5, .c (.s (.b r13))), (6, .c (.s (.k .i64 r16.1))), (7, .c (.s (.er 31 .i64 r16.2))), (8, .c (.s (.b r20)))], [], [⟨.blk, 34, 1, 6, .c [.s (.k .i64 l0_0), .s (.k .i64 l0_1), .s (.k .i64 l0_2), .s (.k .i64 l0_3), .s (.k .i64 l0_4), .s (.k .i64 l0_5)]⟩]⟩) (by kernel_rfl) (allP_cons.2 ⟨g3, allP_nil⟩) ?_
    refine W_seq ?_
    refine W_seq ?_
    rcases Bool.eq_false_or_eq_true (!r20) with g4 | g4
    · replace h := bif_t h g4
      obtain ⟨g5, h⟩ := gd_some h
      rcases Bool.eq_false_or_eq_true (!(r16.2 == (some 1))) with g6 | g6
      · replace h := bif_t h g6
        refine W_reg hT ftL_nil [(2, true), (6, true)] [] [1, 5, 44] [] (s' := ⟨[(1, .c (.s (.k .i64 l1))), (5, .c (.s (.b r13))), (44, .c (.s (.b true)))], [], []⟩) (by kernel_rfl) (allP_cons.2 ⟨g4, (allP_cons.2 ⟨g5, (allP_cons.2 ⟨g6, allP_nil⟩)⟩)⟩) ?_
        refine W_cond (b := true) (by kernel_rfl) (fun _ => ?_) (fun hb => by cases hb)
        refine W_seq ?_
        refine W_reg hT ftL_nil [] [] [4] [] (s' := ⟨[(4, .c (.s (.b false)))], [], []⟩) (by kernel_rfl) allP_nil ?_
        refine W_co [] [4] [] (s' := (lCounts_R false)) (by kernel_rfl) (W_ret ?_)
        exact ⟨.inl rfl, by cases h; rfl⟩
      · replace h := bif_f h g6
        rcases Bool.eq_false_or_eq_true (r16.1 != 0) with g7 | g7
        · replace h := bif_t h g7
          refine W_reg hT ftL_nil [(2, true), (6, false), (11, true)] [] [1, 5, 44] [] (s' := ⟨[(1, .c (.s (.k .i64 l1))), (5, .c (.s (.b r13))), (44, .c (.s (.b true)))], [], []⟩) (by kernel_rfl) (allP_cons.2 ⟨g4, (allP_cons.2 ⟨g5, (allP_cons.2 ⟨g6, (allP_cons.2 ⟨g7, allP_nil⟩)⟩)⟩)⟩) ?_
          refine W_cond (b := true) (by kernel_rfl) (fun _ => ?_) (fun hb => by cases hb)
          refine W_seq ?_
          refine W_reg hT ftL_nil [] [] [4] [] (s' := ⟨[(4, .c (.s (.b false)))], [], []⟩) (by kernel_rfl) allP_nil ?_
          refine W_co [] [4] [] (s' := (lCounts_R false)) (by kernel_rfl) (W_ret ?_)
          exact ⟨.inl rfl, by cases h; rfl⟩
        · replace h := bif_f h g7
          rcases Bool.eq_false_or_eq_true r20 with g8 | g8
          · replace h := bif_t h g8
            rcases Bool.eq_false_or_eq_true (!((r16.2).isNone)) with g9 | g9
            · replace h := bif_t h g9
              refine W_reg hT ftL_nil [(2, true), (6, false), (11, false), (13, true), (16, true)] [] [1, 5, 44] [] (s' := ⟨[(1, .c (.s (.k .i64 l1))), (5, .c (.s (.b r13))), (44, .c (.s (.b true)))], [], []⟩) (by kernel_rfl) (allP_cons.2 ⟨g4, (allP_cons.2 ⟨g5, (allP_cons.2 ⟨g6, (allP_cons.2 ⟨g7, (allP_cons.2 ⟨g8, (allP_cons.2 ⟨g9, allP_nil⟩)⟩)⟩)⟩)⟩)⟩) ?_
              refine W_cond (b := true) (by kernel_rfl) (fun _ => ?_) (fun hb => by cases hb)
              refine W_seq ?_
              refine W_reg hT ftL_nil [] [] [4] [] (s' := ⟨[(4, .c (.s (.b false)))], [], []⟩) (by kernel_rfl) allP_nil ?_
              refine W_co [] [4] [] (s' := (lCounts_R false)) (by kernel_rfl) (W_ret ?_)
              exact ⟨.inl rfl, by cases h; rfl⟩
            · replace h := bif_f h g9
              obtain ⟨r40, g10, h⟩ := bind_some' h
              refine W_reg hT (ftL_cons (k := 19) (f := 22) (F := (rCount_ct n r40)) (rCount_ok n r40) (fun _ _ => True.intro) ftL_nil) [(2, true), (6, false), (11, false), (13, true), (16, false)] [] [1, 5, 44] [] (s' := ⟨[(1, .c (.s (.k .i64 l1))), (5, .c (.s (.b r13))), (44, .c (.s (.b (r16.1 != r40))))], [], []⟩) (by kernel_rfl) (allP_cons.2 ⟨g4, (allP_cons.2 ⟨g5, (allP_cons.2 ⟨g6, (allP_cons.2 ⟨g7, (allP_cons.2 ⟨g8, (allP_cons.2 ⟨g9, (allP_cons.2 ⟨g10, allP_nil⟩)⟩)⟩)⟩)⟩)⟩)⟩) ?_
              refine W_cond (b := (r16.1 != r40)) (by kernel_rfl) (fun g26 => ?_) (fun g26 => ?_)
              · replace h := bif_t h g26
                refine W_seq ?_
                refine W_reg hT ftL_nil [] [] [4] [] (s' := ⟨[(4, .c (.s (.b false)))], [], []⟩) (by kernel_rfl) allP_nil ?_
                refine W_co [] [4] [] (s' := (lCounts_R false)) (by kernel_rfl) (W_ret ?_)
                exact ⟨.inl rfl, by cases h; rfl⟩
              · replace h := bif_f h g26
                refine W_co [] [1, 5] [] (s' := ⟨[(1, .c (.s (.k .i64 l1))), (5, .c (.s (.b r13)))], [], []⟩) (by kernel_rfl) (W_skip ?_)
                refine W_seq ?_
                obtain ⟨r47, g11, h⟩ := bind_some' h
                refine W_reg hT (ftL_cons (k := 1) (f := 23) (F := (pAt_ct n r47)) (pAt_ok n r47) (fun _ _ => True.intro) ftL_nil) [] [] [1, 5, 9, 10] [0] (s' := ⟨[(1, .c (.s (.k .i64 l1))), (5, .c (.s (.b r13))), (9, .c (.pt 0 0)), (10, .c (.s (.er 31 .i64 r47.2.2.2.2.2.2)))], [], [⟨.blk, 34, 1, 6, .c [.s (.k .i64 r47.1), .s (.k .i64 r47.2.1), .s (.k .i64 r47.2.2.1), .s (.k .i64 r47.2.2.2.1), .s (.k .i64 r47.2.2.2.2.1), .s (.k .i64 r47.2.2.2.2.2.1)]⟩]⟩) (by kernel_rfl) (allP_cons.2 ⟨g11, allP_nil⟩) ?_
                refine W_seq ?_
                obtain ⟨r51, g12, h⟩ := bind_some' h
                refine W_reg hT (ftL_cons (k := 1) (f := 22) (F := (rCount_ct n r51)) (rCount_ok n r51) (fun _ _ => True.intro) ftL_nil) [] [] [1, 5, 9, 10, 11] [0] (s' := ⟨[(1, .c (.s (.k .i64 l1))), (5, .c (.s (.b r13))), (9, .c (.pt 0 0)), (10, .c (.s (.er 31 .i64 r47.2.2.2.2.2.2))), (11, .c (.s (.k .i64 r51)))], [], [⟨.blk, 34, 1, 6, .c [.s (.k .i64 r47.1), .s (.k .i64 r47.2.1), .s (.k .i64 r47.2.2.1), .s (.k .i64 r47.2.2.2.1), .s (.k .i64 r47.2.2.2.2.1), .s (.k .i64 r47.2.2.2.2.2.1)]⟩]⟩) (by kernel_rfl) (allP_cons.2 ⟨g12, allP_nil⟩) ?_
                refine W_seq ?_
                refine W_seq ?_
                rcases Bool.eq_false_or_eq_true (decide (l1 < (0 : Int))) with g13 | g13
                · replace h := bif_t h g13
                  refine W_reg hT ftL_nil [(2, true)] [] [1, 5, 9, 10, 58] [0] (s' := ⟨[(1, .c (.s (.k .i64 l1))), (5, .c (.s (.b r13))), (9, .c (.pt 0 0)), (10, .c (.s (.er 31 .i64 r47.2.2.2.2.2.2))), (58, .c (.s (.b true)))], [], [⟨.blk, 34, 1, 6, .c [.s (.k .i64 r47.1), .s (.k .i64 r47.2.1), .s (.k .i64 r47.2.2.1), .s (.k .i64 r47.2.2.2.1), .s (.k .i64 r47.2.2.2.2.1), .s (.k .i64 r47.2.2.2.2.2.1)]⟩]⟩) (by kernel_rfl) (allP_cons.2 ⟨g13, allP_nil⟩) ?_
                  refine W_cond (b := true) (by kernel_rfl) (fun _ => ?_) (fun hb => by cases hb)
                  refine W_seq ?_
                  rcases Bool.eq_false_or_eq_true r13 with g14 | g14
                  · replace h := bif_t h g14
                    obtain ⟨g15, h⟩ := gd_some h
                    rcases Bool.eq_false_or_eq_true (r47.2.2.2.2.2.2 == (some 1)) with g16 | g16
                    · replace h := bif_t h g16
                      refine W_reg hT ftL_nil [(1, true), (6, true)] [] [4] [] (s' := ⟨[(4, .c (.s (.b ((r47.1 == (0 : Int)) && ((r47.2.1 == (0 : Int)) && ((r47.2.2.1 == (0 : Int)) && ((r47.2.2.2.1 == (0 : Int)) && ((r47.2.2.2.2.1 == (0 : Int)) && ((r47.2.2.2.2.2.1 == (0 : Int)) && true)))))))))], [], []⟩) (by kernel_rfl) (allP_cons.2 ⟨g14, (allP_cons.2 ⟨g15, (allP_cons.2 ⟨g16, allP_nil⟩)⟩)⟩) ?_
                      refine W_co [] [4] [] (s' := (lCounts_R ((r47.1 == (0 : Int)) && ((r47.2.1 == (0 : Int)) && ((r47.2.2.1 == (0 : Int)) && ((r47.2.2.2.1 == (0 : Int)) && ((r47.2.2.2.2.1 == (0 : Int)) && ((r47.2.2.2.2.2.1 == (0 : Int)) && true)))))))) (by kernel_rfl) (W_ret ?_)
                      exact ⟨.inl rfl, by cases h; rfl⟩
                    · replace h := bif_f h g16
                      refine W_reg hT ftL_nil [(1, true), (6, false)] [] [4] [] (s' := ⟨[(4, .c (.s (.b false)))], [], []⟩) (by kernel_rfl) (allP_cons.2 ⟨g14, (allP_cons.2 ⟨g15, (allP_cons.2 ⟨g16, allP_nil⟩)⟩)⟩) ?_
                      refine W_co [] [4] [] (s' := (lCounts_R false)) (by kernel_rfl) (W_ret ?_)
                      exact ⟨.inl rfl, by cases h; rfl⟩
                  · replace h := bif_f h g14
                    refine W_reg hT ftL_nil [(1, false)] [] [4] [] (s' := ⟨[(4, .c (.s (.b false)))], [], []⟩) (by kernel_rfl) (allP_cons.2 ⟨g14, allP_nil⟩) ?_
                    refine W_co [] [4] [] (s' := (lCounts_R false)) (by kernel_rfl) (W_ret ?_)
                    exact ⟨.inl rfl, by cases h; rfl⟩
                · replace h := bif_f h g13
                  refine W_reg hT ftL_nil [(2, false)] [] [1, 5, 9, 10, 58] [0] (s' := ⟨[(1, .c (.s (.k .i64 l1))), (5, .c (.s (.b r13))), (9, .c (.pt 0 0)), (10, .c (.s (.er 31 .i64 r47.2.2.2.2.2.2))), (58, .c (.s (.b (decide (r51 < l1)))))], [], [⟨.blk, 34, 1, 6, .c [.s (.k .i64 r47.1), .s (.k .i64 r47.2.1), .s (.k .i64 r47.2.2.1), .s (.k .i64 r47.2.2.2.1), .s (.k .i64 r47.2.2.2.2.1), .s (.k .i64 r47.2.2.2.2.2.1)]⟩]⟩) (by kernel_rfl) (allP_cons.2 ⟨g13, allP_nil⟩) ?_
                  refine W_cond (b := (decide (r51 < l1))) (by kernel_rfl) (fun g25 => ?_) (fun g25 => ?_)
                  · replace h := bif_t h g25
                    refine W_seq ?_
                    rcases Bool.eq_false_or_eq_true r13 with g17 | g17
                    · replace h := bif_t h g17
                      obtain ⟨g18, h⟩ := gd_some h
                      rcases Bool.eq_false_or_eq_true (r47.2.2.2.2.2.2 == (some 1)) with g19 | g19
                      · replace h := bif_t h g19
                        refine W_reg hT ftL_nil [(1, true), (6, true)] [] [4] [] (s' := ⟨[(4, .c (.s (.b ((r47.1 == (0 : Int)) && ((r47.2.1 == (0 : Int)) && ((r47.2.2.1 == (0 : Int)) && ((r47.2.2.2.1 == (0 : Int)) && ((r47.2.2.2.2.1 == (0 : Int)) && ((r47.2.2.2.2.2.1 == (0 : Int)) && true)))))))))], [], []⟩) (by kernel_rfl) (allP_cons.2 ⟨g17, (allP_cons.2 ⟨g18, (allP_cons.2 ⟨g19, allP_nil⟩)⟩)⟩) ?_
                        refine W_co [] [4] [] (s' := (lCounts_R ((r47.1 == (0 : Int)) && ((r47.2.1 == (0 : Int)) && ((r47.2.2.1 == (0 : Int)) && ((r47.2.2.2.1 == (0 : Int)) && ((r47.2.2.2.2.1 == (0 : Int)) && ((r47.2.2.2.2.2.1 == (0 : Int)) && true)))))))) (by kernel_rfl) (W_ret ?_)
                        exact ⟨.inl rfl, by cases h; rfl⟩
                      · replace h := bif_f h g19
                        refine W_reg hT ftL_nil [(1, true), (6, false)] [] [4] [] (s' := ⟨[(4, .c (.s (.b false)))], [], []⟩) (by kernel_rfl) (allP_cons.2 ⟨g17, (allP_cons.2 ⟨g18, (allP_cons.2 ⟨g19, allP_nil⟩)⟩)⟩) ?_
                        refine W_co [] [4] [] (s' := (lCounts_R false)) (by kernel_rfl) (W_ret ?_)
                        exact ⟨.inl rfl, by cases h; rfl⟩
                    · replace h := bif_f h g17
                      refine W_reg hT ftL_nil [(1, false)] [] [4] [] (s' := ⟨[(4, .c (.s (.b false)))], [], []⟩) (by kernel_rfl) (allP_cons.2 ⟨g17, allP_nil⟩) ?_
                      refine W_co [] [4] [] (s' := (lCounts_R false)) (by kernel_rfl) (W_ret ?_)
                      exact ⟨.inl rfl, by cases h; rfl⟩
                  · replace h := bif_f h g25
                    refine W_co [] [1, 5, 9, 10] [0] (s' := ⟨[(1, .c (.s (.k .i64 l1))), (5, .c (.s (.b r13))), (9, .c (.pt 0 0)), (10, .c (.s (.er 31 .i64 r47.2.2.2.2.2.2)))], [], [⟨.blk, 34, 1, 6, .c [.s (.k .i64 r47.1), .s (.k .i64 r47.2.1), .s (.k .i64 r47.2.2.1), .s (.k .i64 r47.2.2.2.1), .s (.k .i64 r47.2.2.2.2.1), .s (.k .i64 r47.2.2.2.2.2.1)]⟩]⟩) (by kernel_rfl) (W_skip ?_)
                    refine W_seq ?_
                    obtain ⟨r71, g20, h⟩ := bind_some' h
                    refine W_reg hT (ftL_cons (k := 1) (f := 21) (F := (rMay8_ct n r71)) (rMay8_ok n r71) (fun _ _ => True.intro) ftL_nil) [] [] [1, 5, 9, 10, 12] [0] (s' := ⟨[(1, .c (.s (.k .i64 l1))), (5, .c (.s (.b r13))), (9, .c (.pt 0 0)), (10, .c (.s (.er 31 .i64 r47.2.2.2.2.2.2))), (12, .c (.s (.b r71)))], [], [⟨.blk, 34, 1, 6, .c [.s (.k .i64 r47.1), .s (.k .i64 r47.2.1), .s (.k .i64 r47.2.2.1), .s (.k .i64 r47.2.2.2.1), .s (.k .i64 r47.2.2.2.2.1), .s (.k .i64 r47.2.2.2.2.2.1)]⟩]⟩) (by kernel_rfl) (allP_cons.2 ⟨g20, allP_nil⟩) ?_
                    refine W_seq ?_
                    rcases Bool.eq_false_or_eq_true r13 with g21 | g21
                    · replace h := bif_t h g21
                      rcases Bool.eq_false_or_eq_true ((r47.2.2.2.2.2.2).isNone) with g22 | g22
                      · replace h := bif_t h g22
                        rcases Bool.eq_false_or_eq_true r71 with g23 | g23
                        · replace h := bif_t h g23
                          obtain ⟨r82, g24, h⟩ := bind_some' h
                          refine W_reg hT (ftL_cons (k := 10) (f := 22) (F := (rCount_ct n r82)) (rCount_ok n r82) (fun _ _ => True.intro) ftL_nil) [(1, true), (5, true), (8, true)] [] [4] [] (s' := ⟨[(4, .c (.s (.b (r82 == l1))))], [], []⟩) (by kernel_rfl) (allP_cons.2 ⟨g21, (allP_cons.2 ⟨g22, (allP_cons.2 ⟨g23, (allP_cons.2 ⟨g24, allP_nil⟩)⟩)⟩)⟩) ?_
                          refine W_co [] [4] [] (s' := (lCounts_R (r82 == l1))) (by kernel_rfl) (W_ret ?_)
                          exact ⟨.inl rfl, by cases h; rfl⟩
                        · replace h := bif_f h g23
                          refine W_reg hT ftL_nil [(1, true), (5, true), (8, false)] [] [4] [] (s' := ⟨[(4, .c (.s (.b false)))], [], []⟩) (by kernel_rfl) (allP_cons.2 ⟨g21, (allP_cons.2 ⟨g22, (allP_cons.2 ⟨g23, allP_nil⟩)⟩)⟩) ?_
                          refine W_co [] [4] [] (s' := (lCounts_R false)) (by kernel_rfl) (W_ret ?_)
                          exact ⟨.inl rfl, by cases h; rfl⟩
                      · replace h := bif_f h g22
                        refine W_reg hT ftL_nil [(1, true), (5, false)] [] [4] [] (s' := ⟨[(4, .c (.s (.b false)))], [], []⟩) (by kernel_rfl) (allP_cons.2 ⟨g21, (allP_cons.2 ⟨g22, allP_nil⟩)⟩) ?_
                        refine W_co [] [4] [] (s' := (lCounts_R false)) (by kernel_rfl) (W_ret ?_)
                        exact ⟨.inl rfl, by cases h; rfl⟩
                    · replace h := bif_f h g21
                      refine W_reg hT ftL_nil [(1, false)] [] [4] [] (s' := ⟨[(4, .c (.s (.b false)))], [], []⟩) (by kernel_rfl) (allP_cons.2 ⟨g21, allP_nil⟩) ?_
                      refine W_co [] [4] [] (s' := (lCounts_R false)) (by kernel_rfl) (W_ret ?_)
                      exact ⟨.inl rfl, by cases h; rfl⟩
          · replace h := bif_f h g8
            refine W_reg hT ftL_nil [(2, true), (6, false), (11, false), (13, false)] [] [1, 5, 44] [] (s' := ⟨[(1, .c (.s (.k .i64 l1))), (5, .c (.s (.b r13))), (44, .c (.s (.b false)))], [], []⟩) (by kernel_rfl) (allP_cons.2 ⟨g4, (allP_cons.2 ⟨g5, (allP_cons.2 ⟨g6, (allP_cons.2 ⟨g7, (allP_cons.2 ⟨g8, allP_nil⟩)⟩)⟩)⟩)⟩) ?_
            refine W_cond (b := false) (by kernel_rfl) (fun hb => by cases hb) (fun _ => ?_)
            refine W_co [] [1, 5] [] (s' := ⟨[(1, .c (.s (.k .i64 l1))), (5, .c (.s (.b r13)))], [], []⟩) (by kernel_rfl) (W_skip ?_)
            refine W_seq ?_
            obtain ⟨r47, g27, h⟩ := bind_some' h
            refine W_reg hT (ftL_cons (k := 1) (f := 23) (F := (pAt_ct n r47)) (pAt_ok n r47) (fun _ _ => True.intro) ftL_nil) [] [] [1, 5, 9, 10] [0] (s' := ⟨[(1, .c (.s (.k .i64 l1))), (5, .c (.s (.b r13))), (9, .c (.pt 0 0)), (10, .c (.s (.er 31 .i64 r47.2.2.2.2.2.2)))], [], [⟨.blk, 34, 1, 6, .c [.s (.k .i64 r47.1), .s (.k .i64 r47.2.1), .s (.k .i64 r47.2.2.1), .s (.k .i64 r47.2.2.2.1), .s (.k .i64 r47.2.2.2.2.1), .s (.k .i64 r47.2.2.2.2.2.1)]⟩]⟩) (by kernel_rfl) (allP_cons.2 ⟨g27, allP_nil⟩) ?_
            refine W_seq ?_
            obtain ⟨r51, g28, h⟩ := bind_some' h
            refine W_reg hT (ftL_cons (k := 1) (f := 22) (F := (rCount_ct n r51)) (rCount_ok n r51) (fun _ _ => True.intro) ftL_nil) [] [] [1, 5, 9, 10, 11] [0] (s' := ⟨[(1, .c (.s (.k .i64 l1))), (5, .c (.s (.b r13))), (9, .c (.pt 0 0)), (10, .c (.s (.er 31 .i64 r47.2.2.2.2.2.2))), (11, .c (.s (.k .i64 r51)))], [], [⟨.blk, 34, 1, 6, .c [.s (.k .i64 r47.1), .s (.k .i64 r47.2.1), .s (.k .i64 r47.2.2.1), .s (.k .i64 r47.2.2.2.1), .s (.k .i64 r47.2.2.2.2.1), .s (.k .i64 r47.2.2.2.2.2.1)]⟩]⟩) (by kernel_rfl) (allP_cons.2 ⟨g28, allP_nil⟩) ?_
            refine W_seq ?_
            refine W_seq ?_
            rcases Bool.eq_false_or_eq_true (decide (l1 < (0 : Int))) with g29 | g29
            · replace h := bif_t h g29
              refine W_reg hT ftL_nil [(2, true)] [] [1, 5, 9, 10, 58] [0] (s' := ⟨[(1, .c (.s (.k .i64 l1))), (5, .c (.s (.b r13))), (9, .c (.pt 0 0)), (10, .c (.s (.er 31 .i64 r47.2.2.2.2.2.2))), (58, .c (.s (.b true)))], [], [⟨.blk, 34, 1, 6, .c [.s (.k .i64 r47.1), .s (.k .i64 r47.2.1), .s (.k .i64 r47.2.2.1), .s (.k .i64 r47.2.2.2.1), .s (.k .i64 r47.2.2.2.2.1), .s (.k .i64 r47.2.2.2.2.2.1)]⟩]⟩) (by kernel_rfl) (allP_cons.2 ⟨g29, allP_nil⟩) ?_
              refine W_cond (b := true) (by kernel_rfl) (fun _ => ?_) (fun hb => by cases hb)
              refine W_seq ?_
              rcases Bool.eq_false_or_eq_true r13 with g30 | g30
              · replace h := bif_t h g30
                obtain ⟨g31, h⟩ := gd_some h
                rcases Bool.eq_false_or_eq_true (r47.2.2.2.2.2.2 == (some 1)) with g32 | g32
                · replace h := bif_t h g32
                  refine W_reg hT ftL_nil [(1, true), (6, true)] [] [4] [] (s' := ⟨[(4, .c (.s (.b ((r47.1 == (0 : Int)) && ((r47.2.1 == (0 : Int)) && ((r47.2.2.1 == (0 : Int)) && ((r47.2.2.2.1 == (0 : Int)) && ((r47.2.2.2.2.1 == (0 : Int)) && ((r47.2.2.2.2.2.1 == (0 : Int)) && true)))))))))], [], []⟩) (by kernel_rfl) (allP_cons.2 ⟨g30, (allP_cons.2 ⟨g31, (allP_cons.2 ⟨g32, allP_nil⟩)⟩)⟩) ?_
                  refine W_co [] [4] [] (s' := (lCounts_R ((r47.1 == (0 : Int)) && ((r47.2.1 == (0 : Int)) && ((r47.2.2.1 == (0 : Int)) && ((r47.2.2.2.1 == (0 : Int)) && ((r47.2.2.2.2.1 == (0 : Int)) && ((r47.2.2.2.2.2.1 == (0 : Int)) && true)))))))) (by kernel_rfl) (W_ret ?_)
                  exact ⟨.inl rfl, by cases h; rfl⟩
                · replace h := bif_f h g32
                  refine W_reg hT ftL_nil [(1, true), (6, false)] [] [4] [] (s' := ⟨[(4, .c (.s (.b false)))], [], []⟩) (by kernel_rfl) (allP_cons.2 ⟨g30, (allP_cons.2 ⟨g31, (allP_cons.2 ⟨g32, allP_nil⟩)⟩)⟩) ?_
                  refine W_co [] [4] [] (s' := (lCounts_R false)) (by kernel_rfl) (W_ret ?_)
                  exact ⟨.inl rfl, by cases h; rfl⟩
              · replace h := bif_f h g30
                refine W_reg hT ftL_nil [(1, false)] [] [4] [] (s' := ⟨[(4, .c (.s (.b false)))], [], []⟩) (by kernel_rfl) (allP_cons.2 ⟨g30, allP_nil⟩) ?_
                refine W_co [] [4] [] (s' := (lCounts_R false)) (by kernel_rfl) (W_ret ?_)
                exact ⟨.inl rfl, by cases h; rfl⟩
            · replace h := bif_f h g29
              refine W_reg hT ftL_nil [(2, false)] [] [1, 5, 9, 10, 58] [0] (s' := ⟨[(1, .c (.s (.k .i64 l1))), (5, .c (.s (.b r13))), (9, .c (.pt 0 0)), (10, .c (.s (.er 31 .i64 r47.2.2.2.2.2.2))), (58, .c (.s (.b (decide (r51 < l1)))))], [], [⟨.blk, 34, 1, 6, .c [.s (.k .i64 r47.1), .s (.k .i64 r47.2.1), .s (.k .i64 r47.2.2.1), .s (.k .i64 r47.2.2.2.1), .s (.k .i64 r47.2.2.2.2.1), .s (.k .i64 r47.2.2.2.2.2.1)]⟩]⟩) (by kernel_rfl) (allP_cons.2 ⟨g29, allP_nil⟩) ?_
              refine W_cond (b := (decide (r51 < l1))) (by kernel_rfl) (fun g41 => ?_) (fun g41 => ?_)
              · replace h := bif_t h g41
                refine W_seq ?_
                rcases Bool.eq_false_or_eq_true r13 with g33 | g33
                · replace h := bif_t h g33
                  obtain ⟨g34, h⟩ := gd_some h
                  rcases Bool.eq_false_or_eq_true (r47.2.2.2.2.2.2 == (some 1)) with g35 | g35
                  · replace h := bif_t h g35
                    refine W_reg hT ftL_nil [(1, true), (6, true)] [] [4] [] (s' := ⟨[(4, .c (.s (.b ((r47.1 == (0 : Int)) && ((r47.2.1 == (0 : Int)) && ((r47.2.2.1 == (0 : Int)) && ((r47.2.2.2.1 == (0 : Int)) && ((r47.2.2.2.2.1 == (0 : Int)) && ((r47.2.2.2.2.2.1 == (0 : Int)) && true)))))))))], [], []⟩) (by kernel_rfl) (allP_cons.2 ⟨g33, (allP_cons.2 ⟨g34, (allP_cons.2 ⟨g35, allP_nil⟩)⟩)⟩) ?_
                    refine W_co [] [4] [] (s' := (lCounts_R ((r47.1 == (0 : Int)) && ((r47.2.1 == (0 : Int)) && ((r47.2.2.1 == (0 : Int)) && ((r47.2.2.2.1 == (0 : Int)) && ((r47.2.2.2.2.1 == (0 : Int)) && ((r47.2.2.2.2.2.1 == (0 : Int)) && true)))))))) (by kernel_rfl) (W_ret ?_)
                    exact ⟨.inl rfl, by cases h; rfl⟩
                  · replace h := bif_f h g35
                    refine W_reg hT ftL_nil [(1, true), (6, false)] [] [4] [] (s' := ⟨[(4, .c (.s (.b false)))], [], []⟩) (by kernel_rfl) (allP_cons.2 ⟨g33, (allP_cons.2 ⟨g34, (allP_cons.2 ⟨g35, allP_nil⟩)⟩)⟩) ?_
                    refine W_co [] [4] [] (s' := (lCounts_R false)) (by kernel_rfl) (W_ret ?_)
                    exact ⟨.inl rfl, by cases h; rfl⟩
                · replace h := bif_f h g33
                  refine W_reg hT ftL_nil [(1, false)] [] [4] [] (s' := ⟨[(4, .c (.s (.b false)))], [], []⟩) (by kernel_rfl) (allP_cons.2 ⟨g33, allP_nil⟩) ?_
                  refine W_co [] [4] [] (s' := (lCounts_R false)) (by kernel_rfl) (W_ret ?_)
                  exact ⟨.inl rfl, by cases h; rfl⟩
              · replace h := bif_f h g41
                refine W_co [] [1, 5, 9, 10] [0] (s' := ⟨[(1, .c (.s (.k .i64 l1))), (5, .c (.s (.b r13))), (9, .c (.pt 0 0)), (10, .c (.s (.er 31 .i64 r47.2.2.2.2.2.2)))], [], [⟨.blk, 34, 1, 6, .c [.s (.k .i64 r47.1), .s (.k .i64 r47.2.1), .s (.k .i64 r47.2.2.1), .s (.k .i64 r47.2.2.2.1), .s (.k .i64 r47.2.2.2.2.1), .s (.k .i64 r47.2.2.2.2.2.1)]⟩]⟩) (by kernel_rfl) (W_skip ?_)
                refine W_seq ?_
                obtain ⟨r71, g36, h⟩ := bind_some' h
                refine W_reg hT (ftL_cons (k := 1) (f := 21) (F := (rMay8_ct n r71)) (rMay8_ok n r71) (fun _ _ => True.intro) ftL_nil) [] [] [1, 5, 9, 10, 12] [0] (s' := ⟨[(1, .c (.s (.k .i64 l1))), (5, .c (.s (.b r13))), (9, .c (.pt 0 0)), (10, .c (.s (.er 31 .i64 r47.2.2.2.2.2.2))), (12, .c (.s (.b r71)))], [], [⟨.blk, 34, 1, 6, .c [.s (.k .i64 r47.1), .s (.k .i64 r47.2.1), .s (.k .i64 r47.2.2.1), .s (.k .i64 r47.2.2.2.1), .s (.k .i64 r47.2.2.2.2.1), .s (.k .i64 r47.2.2.2.2.2.1)]⟩]⟩) (by kernel_rfl) (allP_cons.2 ⟨g36, allP_nil⟩) ?_
                refine W_seq ?_
                rcases Bool.eq_false_or_eq_true r13 with g37 | g37
                · replace h := bif_t h g37
                  rcases Bool.eq_false_or_eq_true ((r47.2.2.2.2.2.2).isNone) with g38 | g38
                  · replace h := bif_t h g38
                    rcases Bool.eq_false_or_eq_true r71 with g39 | g39
                    · replace h := bif_t h g39
                      obtain ⟨r82, g40, h⟩ := bind_some' h
                      refine W_reg hT (ftL_cons (k := 10) (f := 22) (F := (rCount_ct n r82)) (rCount_ok n r82) (fun _ _ => True.intro) ftL_nil) [(1, true), (5, true), (8, true)] [] [4] [] (s' := ⟨[(4, .c (.s (.b (r82 == l1))))], [], []⟩) (by kernel_rfl) (allP_cons.2 ⟨g37, (allP_cons.2 ⟨g38, (allP_cons.2 ⟨g39, (allP_cons.2 ⟨g40, allP_nil⟩)⟩)⟩)⟩) ?_
                      refine W_co [] [4] [] (s' := (lCounts_R (r82 == l1))) (by kernel_rfl) (W_ret ?_)
                      exact ⟨.inl rfl, by cases h; rfl⟩
                    · replace h := bif_f h g39
                      refine W_reg hT ftL_nil [(1, true), (5, true), (8, false)] [] [4] [] (s' := ⟨[(4, .c (.s (.b false)))], [], []⟩) (by kernel_rfl) (allP_cons.2 ⟨g37, (allP_cons.2 ⟨g38, (allP_cons.2 ⟨g39, allP_nil⟩)⟩)⟩) ?_
                      refine W_co [] [4] [] (s' := (lCounts_R false)) (by kernel_rfl) (W_ret ?_)
                      exact ⟨.inl rfl, by cases h; rfl⟩
                  · replace h := bif_f h g38
                    refine W_reg hT ftL_nil [(1, true), (5, false)] [] [4] [] (s' := ⟨[(4, .c (.s (.b false)))], [], []⟩) (by kernel_rfl) (allP_cons.2 ⟨g37, (allP_cons.2 ⟨g38, allP_nil⟩)⟩) ?_
                    refine W_co [] [4] [] (s' := (lCounts_R false)) (by kernel_rfl) (W_ret ?_)
                    exact ⟨.inl rfl, by cases h; rfl⟩
                · replace h := bif_f h g37
                  refine W_reg hT ftL_nil [(1, false)] [] [4] [] (s' := ⟨[(4, .c (.s (.b false)))], [], []⟩) (by kernel_rfl) (allP_cons.2 ⟨g37, allP_nil⟩) ?_
                  refine W_co [] [4] [] (s' := (lCounts_R false)) (by kernel_rfl) (W_ret ?_)
                  exact ⟨.inl rfl, by cases h; rfl⟩
    · replace h := bif_f h g4
      rcases Bool.eq_false_or_eq_true r20 with g42 | g42
      · replace h := bif_t h g42
        rcases Bool.eq_false_or_eq_true (!((r16.2).isNone)) with g43 | g43
        · replace h := bif_t h g43
          refine W_reg hT ftL_nil [(2, false), (13, true), (16, true)] [] [1, 5, 44] [] (s' := ⟨[(1, .c (.s (.k .i64 l1))), (5, .c (.s (.b r13))), (44, .c (.s (.b true)))], [], []⟩) (by kernel_rfl) (allP_cons.2 ⟨g4, (allP_cons.2 ⟨g42, (allP_cons.2 ⟨g43, allP_nil⟩)⟩)⟩) ?_
          refine W_cond (b := true) (by kernel_rfl) (fun _ => ?_) (fun hb => by cases hb)
          refine W_seq ?_
          refine W_reg hT ftL_nil [] [] [4] [] (s' := ⟨[(4, .c (.s (.b false)))], [], []⟩) (by kernel_rfl) allP_nil ?_
          refine W_co [] [4] [] (s' := (lCounts_R false)) (by kernel_rfl) (W_ret ?_)
          exact ⟨.inl rfl, by cases h; rfl⟩
        · replace h := bif_f h g43
          obtain ⟨r40, g44, h⟩ := bind_some' h
          refine W_reg hT (ftL_cons (k := 19) (f := 22) (F := (rCount_ct n r40)) (rCount_ok n r40) (fun _ _ => True.intro) ftL_nil) [(2, false), (13, true), (16, false)] [] [1, 5, 44] [] (s' := ⟨[(1, .c (.s (.k .i64 l1))), (5, .c (.s (.b r13))), (44, .c (.s (.b (r16.1 != r40))))], [], []⟩) (by kernel_rfl) (allP_cons.2 ⟨g4, (allP_cons.2 ⟨g42, (allP_cons.2 ⟨g43, (allP_cons.2 ⟨g44, allP_nil⟩)⟩)⟩)⟩) ?_
          refine W_cond (b := (r16.1 != r40)) (by kernel_rfl) (fun g60 => ?_) (fun g60 => ?_)
          · replace h := bif_t h g60
            refine W_seq ?_
            refine W_reg hT ftL_nil [] [] [4] [] (s' := ⟨[(4, .c (.s (.b false)))], [], []⟩) (by kernel_rfl) allP_nil ?_
            refine W_co [] [4] [] (s' := (lCounts_R false)) (by kernel_rfl) (W_ret ?_)
            exact ⟨.inl rfl, by cases h; rfl⟩
          · replace h := bif_f h g60
            refine W_co [] [1, 5] [] (s' := ⟨[(1, .c (.s (.k .i64 l1))), (5, .c (.s (.b r13)))], [], []⟩) (by kernel_rfl) (W_skip ?_)
            refine W_seq ?_
            obtain ⟨r47, g45, h⟩ := bind_some' h
            refine W_reg hT (ftL_cons (k := 1) (f := 23) (F := (pAt_ct n r47)) (pAt_ok n r47) (fun _ _ => True.intro) ftL_nil) [] [] [1, 5, 9, 10] [0] (s' := ⟨[(1, .c (.s (.k .i64 l1))), (5, .c (.s (.b r13))), (9, .c (.pt 0 0)), (10, .c (.s (.er 31 .i64 r47.2.2.2.2.2.2)))], [], [⟨.blk, 34, 1, 6, .c [.s (.k .i64 r47.1), .s (.k .i64 r47.2.1), .s (.k .i64 r47.2.2.1), .s (.k .i64 r47.2.2.2.1), .s (.k .i64 r47.2.2.2.2.1), .s (.k .i64 r47.2.2.2.2.2.1)]⟩]⟩) (by kernel_rfl) (allP_cons.2 ⟨g45, allP_nil⟩) ?_
            refine W_seq ?_
            obtain ⟨r51, g46, h⟩ := bind_some' h
            refine W_reg hT (ftL_cons (k := 1) (f := 22) (F := (rCount_ct n r51)) (rCount_ok n r51) (fun _ _ => True.intro) ftL_nil) [] [] [1, 5, 9, 10, 11] [0] (s' := ⟨[(1, .c (.s (.k .i64 l1))), (5, .c (.s (.b r13))), (9, .c (.pt 0 0)), (10, .c (.s (.er 31 .i64 r47.2.2.2.2.2.2))), (11, .c (.s (.k .i64 r51)))], [], [⟨.blk, 34, 1, 6, .c [.s (.k .i64 r47.1), .s (.k .i64 r47.2.1), .s (.k .i64 r47.2.2.1), .s (.k .i64 r47.2.2.2.1), .s (.k .i64 r47.2.2.2.2.1), .s (.k .i64 r47.2.2.2.2.2.1)]⟩]⟩) (by kernel_rfl) (allP_cons.2 ⟨g46, allP_nil⟩) ?_
            refine W_seq ?_
            refine W_seq ?_
            rcases Bool.eq_false_or_eq_true (decide (l1 < (0 : Int))) with g47 | g47
            · replace h := bif_t h g47
              refine W_reg hT ftL_nil [(2, true)] [] [1, 5, 9, 10, 58] [0] (s' := ⟨[(1, .c (.s (.k .i64 l1))), (5, .c (.s (.b r13))), (9, .c (.pt 0 0)), (10, .c (.s (.er 31 .i64 r47.2.2.2.2.2.2))), (58, .c (.s (.b true)))], [], [⟨.blk, 34, 1, 6, .c [.s (.k .i64 r47.1), .s (.k .i64 r47.2.1), .s (.k .i64 r47.2.2.1), .s (.k .i64 r47.2.2.2.1), .s (.k .i64 r47.2.2.2.2.1), .s (.k .i64 r47.2.2.2.2.2.1)]⟩]⟩) (by kernel_rfl) (allP_cons.2 ⟨g47, allP_nil⟩) ?_
              refine W_cond (b := true) (by kernel_rfl) (fun _ => ?_) (fun hb => by cases hb)
              refine W_seq ?_
              rcases Bool.eq_false_or_eq_true r13 with g48 | g48
              · replace h := bif_t h g48
                obtain ⟨g49, h⟩ := gd_some h
                rcases Bool.eq_false_or_eq_true (r47.2.2.2.2.2.2 == (some 1)) with g50 | g50
                · replace h := bif_t h g50
                  refine W_reg hT ftL_nil [(1, true), (6, true)] [] [4] [] (s' := ⟨[(4, .c (.s (.b ((r47.1 == (0 : Int)) && ((r47.2.1 == (0 : Int)) && ((r47.2.2.1 == (0 : Int)) && ((r47.2.2.2.1 == (0 : Int)) && ((r47.2.2.2.2.1 == (0 : Int)) && ((r47.2.2.2.2.2.1 == (0 : Int)) && true)))))))))], [], []⟩) (by kernel_rfl) (allP_cons.2 ⟨g48, (allP_cons.2 ⟨g49, (allP_cons.2 ⟨g50, allP_nil⟩)⟩)⟩) ?_
                  refine W_co [] [4] [] (s' := (lCounts_R ((r47.1 == (0 : Int)) && ((r47.2.1 == (0 : Int)) && ((r47.2.2.1 == (0 : Int)) && ((r47.2.2.2.1 == (0 : Int)) && ((r47.2.2.2.2.1 == (0 : Int)) && ((r47.2.2.2.2.2.1 == (0 : Int)) && true)))))))) (by kernel_rfl) (W_ret ?_)
                  exact ⟨.inl rfl, by cases h; rfl⟩
                · replace h := bif_f h g50
                  refine W_reg hT ftL_nil [(1, true), (6, false)] [] [4] [] (s' := ⟨[(4, .c (.s (.b false)))], [], []⟩) (by kernel_rfl) (allP_cons.2 ⟨g48, (allP_cons.2 ⟨g49, (allP_cons.2 ⟨g50, allP_nil⟩)⟩)⟩) ?_
                  refine W_co [] [4] [] (s' := (lCounts_R false)) (by kernel_rfl) (W_ret ?_)
                  exact ⟨.inl rfl, by cases h; rfl⟩
              · replace h := bif_f h g48
                refine W_reg hT ftL_nil [(1, false)] [] [4] [] (s' := ⟨[(4, .c (.s (.b false)))], [], []⟩) (by kernel_rfl) (allP_cons.2 ⟨g48, allP_nil⟩) ?_
                refine W_co [] [4] [] (s' := (lCounts_R false)) (by kernel_rfl) (W_ret ?_)
                exact ⟨.inl rfl, by cases h; rfl⟩
            · replace h := bif_f h g47
              refine W_reg hT ftL_nil [(2, false)] [] [1, 5, 9, 10, 58] [0] (s' := ⟨[(1, .c (.s (.k .i64 l1))), (5, .c (.s (.b r13))), (9, .c (.pt 0 0)), (10, .c (.s (.er 31 .i64 r47.2.2.2.2.2.2))), (58, .c (.s (.b (decide (r51 < l1)))))], [], [⟨.blk, 34, 1, 6, .c [.s (.k .i64 r47.1), .s (.k .i64 r47.2.1), .s (.k .i64 r47.2.2.1), .s (.k .i64 r47.2.2.2.1), .s (.k .i64 r47.2.2.2.2.1), .s (.k .i64 r47.2.2.2.2.2.1)]⟩]⟩) (by kernel_rfl) (allP_cons.2 ⟨g47, allP_nil⟩) ?_
              refine W_cond (b := (decide (r51 < l1))) (by kernel_rfl) (fun g59 => ?_) (fun g59 => ?_)
              · replace h := bif_t h g59
                refine W_seq ?_
                rcases Bool.eq_false_or_eq_true r13 with g51 | g51
                · replace h := bif_t h g51
                  obtain ⟨g52, h⟩ := gd_some h
                  rcases Bool.eq_false_or_eq_true (r47.2.2.2.2.2.2 == (some 1)) with g53 | g53
                  · replace h := bif_t h g53
                    refine W_reg hT ftL_nil [(1, true), (6, true)] [] [4] [] (s' := ⟨[(4, .c (.s (.b ((r47.1 == (0 : Int)) && ((r47.2.1 == (0 : Int)) && ((r47.2.2.1 == (0 : Int)) && ((r47.2.2.2.1 == (0 : Int)) && ((r47.2.2.2.2.1 == (0 : Int)) && ((r47.2.2.2.2.2.1 == (0 : Int)) && true)))))))))], [], []⟩) (by kernel_rfl) (allP_cons.2 ⟨g51, (allP_cons.2 ⟨g52, (allP_cons.2 ⟨g53, allP_nil⟩)⟩)⟩) ?_
                    refine W_co [] [4] [] (s' := (lCounts_R ((r47.1 == (0 : Int)) && ((r47.2.1 == (0 : Int)) && ((r47.2.2.1 == (0 : Int)) && ((r47.2.2.2.1 == (0 : Int)) && ((r47.2.2.2.2.1 == (0 : Int)) && ((r47.2.2.2.2.2.1 == (0 : Int)) && true)))))))) (by kernel_rfl) (W_ret ?_)
                    exact ⟨.inl rfl, by cases h; rfl⟩
                  · replace h := bif_f h g53
                    refine W_reg hT ftL_nil [(1, true), (6, false)] [] [4] [] (s' := ⟨[(4, .c (.s (.b false)))], [], []⟩) (by kernel_rfl) (allP_cons.2 ⟨g51, (allP_cons.2 ⟨g52, (allP_cons.2 ⟨g53, allP_nil⟩)⟩)⟩) ?_
                    refine W_co [] [4] [] (s' := (lCounts_R false)) (by kernel_rfl) (W_ret ?_)
                    exact ⟨.inl rfl, by cases h; rfl⟩
                · replace h := bif_f h g51
                  refine W_reg hT ftL_nil [(1, false)] [] [4] [] (s' := ⟨[(4, .c (.s (.b false)))], [], []⟩) (by kernel_rfl) (allP_cons.2 ⟨g51, allP_nil⟩) ?_
                  refine W_co [] [4] [] (s' := (lCounts_R false)) (by kernel_rfl) (W_ret ?_)
                  exact ⟨.inl rfl, by cases h; rfl⟩
              · replace h := bif_f h g59
                refine W_co [] [1, 5, 9, 10] [0] (s' := ⟨[(1, .c (.s (.k .i64 l1))), (5, .c (.s (.b r13))), (9, .c (.pt 0 0)), (10, .c (.s (.er 31 .i64 r47.2.2.2.2.2.2)))], [], [⟨.blk, 34, 1, 6, .c [.s (.k .i64 r47.1), .s (.k .i64 r47.2.1), .s (.k .i64 r47.2.2.1), .s (.k .i64 r47.2.2.2.1), .s (.k .i64 r47.2.2.2.2.1), .s (.k .i64 r47.2.2.2.2.2.1)]⟩]⟩) (by kernel_rfl) (W_skip ?_)
                refine W_seq ?_
                obtain ⟨r71, g54, h⟩ := bind_some' h
                refine W_reg hT (ftL_cons (k := 1) (f := 21) (F := (rMay8_ct n r71)) (rMay8_ok n r71) (fun _ _ => True.intro) ftL_nil) [] [] [1, 5, 9, 10, 12] [0] (s' := ⟨[(1, .c (.s (.k .i64 l1))), (5, .c (.s (.b r13))), (9, .c (.pt 0 0)), (10, .c (.s (.er 31 .i64 r47.2.2.2.2.2.2))), (12, .c (.s (.b r71)))], [], [⟨.blk, 34, 1, 6, .c [.s (.k .i64 r47.1), .s (.k .i64 r47.2.1), .s (.k .i64 r47.2.2.1), .s (.k .i64 r47.2.2.2.1), .s (.k .i64 r47.2.2.2.2.1), .s (.k .i64 r47.2.2.2.2.2.1)]⟩]⟩) (by kernel_rfl) (allP_cons.2 ⟨g54, allP_nil⟩) ?_
                refine W_seq ?_
                rcases Bool.eq_false_or_eq_true r13 with g55 | g55
                · replace h := bif_t h g55
                  rcases Bool.eq_false_or_eq_true ((r47.2.2.2.2.2.2).isNone) with g56 | g56
                  · replace h := bif_t h g56
                    rcases Bool.eq_false_or_eq_true r71 with g57 | g57
                    · replace h := bif_t h g57
                      obtain ⟨r82, g58, h⟩ := bind_some' h
                      refine W_reg hT (ftL_cons (k := 10) (f := 22) (F := (rCount_ct n r82)) (rCount_ok n r82) (fun _ _ => True.intro) ftL_nil) [(1, true), (5, true), (8, true)] [] [4] [] (s' := ⟨[(4, .c (.s (.b (r82 == l1))))], [], []⟩) (by kernel_rfl) (allP_cons.2 ⟨g55, (allP_cons.2 ⟨g56, (allP_cons.2 ⟨g57, (allP_cons.2 ⟨g58, allP_nil⟩)⟩)⟩)⟩) ?_
                      refine W_co [] [4] [] (s' := (lCounts_R (r82 == l1))) (by kernel_rfl) (W_ret ?_)
                      exact ⟨.inl rfl, by cases h; rfl⟩
                    · replace h := bif_f h g57
                      refine W_reg hT ftL_nil [(1, true), (5, true), (8, false)] [] [4] [] (s' := ⟨[(4, .c (.s (.b false)))], [], []⟩) (by kernel_rfl) (allP_cons.2 ⟨g55, (allP_cons.2 ⟨g56, (allP_cons.2 ⟨g57, allP_nil⟩)⟩)⟩) ?_
                      refine W_co [] [4] [] (s' := (lCounts_R false)) (by kernel_rfl) (W_ret ?_)
                      exact ⟨.inl rfl, by cases h; rfl⟩
                  · replace h := bif_f h g56
                    refine W_reg hT ftL_nil [(1, true), (5, false)] [] [4] [] (s' := ⟨[(4, .c (.s (.b false)))], [], []⟩) (by kernel_rfl) (allP_cons.2 ⟨g55, (allP_cons.2 ⟨g56, allP_nil⟩)⟩) ?_
                    refine W_co [] [4] [] (s' := (lCounts_R false)) (by kernel_rfl) (W_ret ?_)
                    exact ⟨.inl rfl, by cases h; rfl⟩
                · replace h := bif_f h g55
                  refine W_reg hT ftL_nil [(1, false)] [] [4] [] (s' := ⟨[(4, .c (.s (.b false)))], [], []⟩) (by kernel_rfl) (allP_cons.2 ⟨g55, allP_nil⟩) ?_
                  refine W_co [] [4] [] (s' := (lCounts_R false)) (by kernel_rfl) (W_ret ?_)
                  exact ⟨.inl rfl, by cases h; rfl⟩
      · replace h := bif_f h g42
        refine W_reg hT ftL_nil [(2, false), (13, false)] [] [1, 5, 44] [] (s' := ⟨[(1, .c (.s (.k .i64 l1))), (5, .c (.s (.b r13))), (44, .c (.s (.b false)))], [], []⟩) (by kernel_rfl) (allP_cons.2 ⟨g4, (allP_cons.2 ⟨g42, allP_nil⟩)⟩) ?_
        refine W_cond (b := false) (by kernel_rfl) (fun hb => by cases hb) (fun _ => ?_)
        refine W_co [] [1, 5] [] (s' := ⟨[(1, .c (.s (.k .i64 l1))), (5, .c (.s (.b r13)))], [], []⟩) (by kernel_rfl) (W_skip ?_)
        refine W_seq ?_
        obtain ⟨r47, g61, h⟩ := bind_some' h
        refine W_reg hT (ftL_cons (k := 1) (f := 23) (F := (pAt_ct n r47)) (pAt_ok n r47) (fun _ _ => True.intro) ftL_nil) [] [] [1, 5, 9, 10] [0] (s' := ⟨[(1, .c (.s (.k .i64 l1))), (5, .c (.s (.b r13))), (9, .c (.pt 0 0)), (10, .c (.s (.er 31 .i64 r47.2.2.2.2.2.2)))], [], [⟨.blk, 34, 1, 6, .c [.s (.k .i64 r47.1), .s (.k .i64 r47.2.1), .s (.k .i64 r47.2.2.1), .s (.k .i64 r47.2.2.2.1), .s (.k .i64 r47.2.2.2.2.1), .s (.k .i64 r47.2.2.2.2.2.1)]⟩]⟩) (by kernel_rfl) (allP_cons.2 ⟨g61, allP_nil⟩) ?_
        refine W_seq ?_
        obtain ⟨r51, g62, h⟩ := bind_some' h
        refine W_reg hT (ftL_cons (k := 1) (f := 22) (F := (rCount_ct n r51)) (rCount_ok n r51) (fun _ _ => True.intro) ftL_nil) [] [] [1, 5, 9, 10, 11] [0] (s' := ⟨[(1, .c (.s (.k .i64 l1))), (5, .c (.s (.b r13))), (9, .c (.pt 0 0)), (10, .c (.s (.er 31 .i64 r47.2.2.2.2.2.2))), (11, .c (.s (.k .i64 r51)))], [], [⟨.blk, 34, 1, 6, .c [.s (.k .i64 r47.1), .s (.k .i64 r47.2.1), .s (.k .i64 r47.2.2.1), .s (.k .i64 r47.2.2.2.1), .s (.k .i64 r47.2.2.2.2.1), .s (.k .i64 r47.2.2.2.2.2.1)]⟩]⟩) (by kernel_rfl) (allP_cons.2 ⟨g62, allP_nil⟩) ?_
        refine W_seq ?_
        refine W_seq ?_
        rcases Bool.eq_false_or_eq_true (decide (l1 < (0 : Int))) with g63 | g63
        · replace h := bif_t h g63
          refine W_reg hT ftL_nil [(2, true)] [] [1, 5, 9, 10, 58] [0] (s' := ⟨[(1, .c (.s (.k .i64 l1))), (5, .c (.s (.b r13))), (9, .c (.pt 0 0)), (10, .c (.s (.er 31 .i64 r47.2.2.2.2.2.2))), (58, .c (.s (.b true)))], [], [⟨.blk, 34, 1, 6, .c [.s (.k .i64 r47.1), .s (.k .i64 r47.2.1), .s (.k .i64 r47.2.2.1), .s (.k .i64 r47.2.2.2.1), .s (.k .i64 r47.2.2.2.2.1), .s (.k .i64 r47.2.2.2.2.2.1)]⟩]⟩) (by kernel_rfl) (allP_cons.2 ⟨g63, allP_nil⟩) ?_
          refine W_cond (b := true) (by kernel_rfl) (fun _ => ?_) (fun hb => by cases hb)
          refine W_seq ?_
          rcases Bool.eq_false_or_eq_true r13 with g64 | g64
          · replace h := bif_t h g64
            obtain ⟨g65, h⟩ := gd_some h
            rcases Bool.eq_false_or_eq_true (r47.2.2.2.2.2.2 == (some 1)) with g66 | g66
            · replace h := bif_t h g66
              refine W_reg hT ftL_nil [(1, true), (6, true)] [] [4] [] (s' := ⟨[(4, .c (.s (.b ((r47.1 == (0 : Int)) && ((r47.2.1 == (0 : Int)) && ((r47.2.2.1 == (0 : Int)) && ((r47.2.2.2.1 == (0 : Int)) && ((r47.2.2.2.2.1 == (0 : Int)) && ((r47.2.2.2.2.2.1 == (0 : Int)) && true)))))))))], [], []⟩) (by kernel_rfl) (allP_cons.2 ⟨g64, (allP_cons.2 ⟨g65, (allP_cons.2 ⟨g66, allP_nil⟩)⟩)⟩) ?_
              refine W_co [] [4] [] (s' := (lCounts_R ((r47.1 == (0 : Int)) && ((r47.2.1 == (0 : Int)) && ((r47.2.2.1 == (0 : Int)) && ((r47.2.2.2.1 == (0 : Int)) && ((r47.2.2.2.2.1 == (0 : Int)) && ((r47.2.2.2.2.2.1 == (0 : Int)) && true)))))))) (by kernel_rfl) (W_ret ?_)
              exact ⟨.inl rfl, by cases h; rfl⟩
            · replace h := bif_f h g66
              refine W_reg hT ftL_nil [(1, true), (6, false)] [] [4] [] (s' := ⟨[(4, .c (.s (.b false)))], [], []⟩) (by kernel_rfl) (allP_cons.2 ⟨g64, (allP_cons.2 ⟨g65, (allP_cons.2 ⟨g66, allP_nil⟩)⟩)⟩) ?_
              refine W_co [] [4] [] (s' := (lCounts_R false)) (by kernel_rfl) (W_ret ?_)
              exact ⟨.inl rfl, by cases h; rfl⟩
          · replace h := bif_f h g64
            refine W_reg hT ftL_nil [(1, false)] [] [4] [] (s' := ⟨[(4, .c (.s (.b false)))], [], []⟩) (by kernel_rfl) (allP_cons.2 ⟨g64, allP_nil⟩) ?_
            refine W_co [] [4] [] (s' := (lCounts_R false)) (by kernel_rfl) (W_ret ?_)
            exact ⟨.inl rfl, by cases h; rfl⟩
        · replace h := bif_f h g63
          refine W_reg hT ftL_nil [(2, false)] [] [1, 5, 9, 10, 58] [0] (s' := ⟨[(1, .c (.s (.k .i64 l1))), (5, .c (.s (.b r13))), (9, .c (.pt 0 0)), (10, .c (.s (.er 31 .i64 r47.2.2.2.2.2.2))), (58, .c (.s (.b (decide (r51 < l1)))))], [], [⟨.blk, 34, 1, 6, .c [.s (.k .i64 r47.1), .s (.k .i64 r47.2.1), .s (.k .i64 r47.2.2.1), .s (.k .i64 r47.2.2.2.1), .s (.k .i64 r47.2.2.2.2.1), .s (.k .i64 r47.2.2.2.2.2.1)]⟩]⟩) (by kernel_rfl) (allP_cons.2 ⟨g63, allP_nil⟩) ?_
          refine W_cond (b := (decide (r51 < l1))) (by kernel_rfl) (fun g75 => ?_) (fun g75 => ?_)
          · replace h := bif_t h g75
            refine W_seq ?_
            rcases Bool.eq_false_or_eq_true r13 with g67 | g67
            · replace h := bif_t h g67
              obtain ⟨g68, h⟩ := gd_some h
              rcases Bool.eq_false_or_eq_true (r47.2.2.2.2.2.2 == (some 1)) with g69 | g69
              · replace h := bif_t h g69
                refine W_reg hT ftL_nil [(1, true), (6, true)] [] [4] [] (s' := ⟨[(4, .c (.s (.b ((r47.1 == (0 : Int)) && ((r47.2.1 == (0 : Int)) && ((r47.2.2.1 == (0 : Int)) && ((r47.2.2.2.1 == (0 : Int)) && ((r47.2.2.2.2.1 == (0 : Int)) && ((r47.2.2.2.2.2.1 == (0 : Int)) && true)))))))))], [], []⟩) (by kernel_rfl) (allP_cons.2 ⟨g67, (allP_cons.2 ⟨g68, (allP_cons.2 ⟨g69, allP_nil⟩)⟩)⟩) ?_
                refine W_co [] [4] [] (s' := (lCounts_R ((r47.1 == (0 : Int)) && ((r47.2.1 == (0 : Int)) && ((r47.2.2.1 == (0 : Int)) && ((r47.2.2.2.1 == (0 : Int)) && ((r47.2.2.2.2.1 == (0 : Int)) && ((r47.2.2.2.2.2.1 == (0 : Int)) && true)))))))) (by kernel_rfl) (W_ret ?_)
                exact ⟨.inl rfl, by cases h; rfl⟩
              · replace h := bif_f h g69
                refine W_reg hT ftL_nil [(1, true), (6, false)] [] [4] [] (s' := ⟨[(4, .c (.s (.b false)))], [], []⟩) (by kernel_rfl) (allP_cons.2 ⟨g67, (allP_cons.2 ⟨g68, (allP_cons.2 ⟨g69, allP_nil⟩)⟩)⟩) ?_
                refine W_co [] [4] [] (s' := (lCounts_R false)) (by kernel_rfl) (W_ret ?_)
                exact ⟨.inl rfl, by cases h; rfl⟩
            · replace h := bif_f h g67
              refine W_reg hT ftL_nil [(1, false)] [] [4] [] (s' := ⟨[(4, .c (.s (.b false)))], [], []⟩) (by kernel_rfl) (allP_cons.2 ⟨g67, allP_nil⟩) ?_
              refine W_co [] [4] [] (s' := (lCounts_R false)) (by kernel_rfl) (W_ret ?_)
              exact ⟨.inl rfl, by cases h; rfl⟩
          · replace h := bif_f h g75
            refine W_co [] [1, 5, 9, 10] [0] (s' := ⟨[(1, .c (.s (.k .i64 l1))), (5, .c (.s (.b r13))), (9, .c (.pt 0 0)), (10, .c (.s (.er 31 .i64 r47.2.2.2.2.2.2)))], [], [⟨.blk, 34, 1, 6, .c [.s (.k .i64 r47.1), .s (.k .i64 r47.2.1), .s (.k .i64 r47.2.2.1), .s (.k .i64 r47.2.2.2.1), .s (.k .i64 r47.2.2.2.2.1), .s (.k .i64 r47.2.2.2.2.2.1)]⟩]⟩) (by kernel_rfl) (W_skip ?_)
            refine W_seq ?_
            obtain ⟨r71, g70, h⟩ := bind_some' h
            refine W_reg hT (ftL_cons (k := 1) (f := 21) (F := (rMay8_ct n r71)) (rMay8_ok n r71) (fun _ _ => True.intro) ftL_nil) [] [] [1, 5, 9, 10, 12] [0] (s' := ⟨[(1, .c (.s (.k .i64 l1))), (5, .c (.s (.b r13))), (9, .c (.pt 0 0)), (10, .c (.s (.er 31 .i64 r47.2.2.2.2.2.2))), (12, .c (.s (.b r71)))], [], [⟨.blk, 34, 1, 6, .c [.s (.k .i64 r47.1), .s (.k .i64 r47.2.1), .s (.k .i64 r47.2.2.1), .s (.k .i64 r47.2.2.2.1), .s (.k .i64 r47.2.2.2.2.1), .s (.k .i64 r47.2.2.2.2.2.1)]⟩]⟩) (by kernel_rfl) (allP_cons.2 ⟨g70, allP_nil⟩) ?_
            refine W_seq ?_
            rcases Bool.eq_false_or_eq_true r13 with g71 | g71
            · replace h := bif_t h g71
              rcases Bool.eq_false_or_eq_true ((r47.2.2.2.2.2.2).isNone) with g72 | g72
              · replace h := bif_t h g72
                rcases Bool.eq_false_or_eq_true r71 with g73 | g73
                · replace h := bif_t h g73
                  obtain ⟨r82, g74, h⟩ := bind_some' h
                  refine W_reg hT (ftL_cons (k := 10) (f := 22) (F := (rCount_ct n r82)) (rCount_ok n r82) (fun _ _ => True.intro) ftL_nil) [(1, true), (5, true), (8, true)] [] [4] [] (s' := ⟨[(4, .c (.s (.b (r82 == l1))))], [], []⟩) (by kernel_rfl) (allP_cons.2 ⟨g71, (allP_cons.2 ⟨g72, (allP_cons.2 ⟨g73, (allP_cons.2 ⟨g74, allP_nil⟩)⟩)⟩)⟩) ?_
                  refine W_co [] [4] [] (s' := (lCounts_R (r82 == l1))) (by kernel_rfl) (W_ret ?_)
                  exact ⟨.inl rfl, by cases h; rfl⟩
                · replace h := bif_f h g73
                  refine W_reg hT ftL_nil [(1, true), (5, true), (8, false)] [] [4] [] (s' := ⟨[(4, .c (.s (.b false)))], [], []⟩) (by kernel_rfl) (allP_cons.2 ⟨g71, (allP_cons.2 ⟨g72, (allP_cons.2 ⟨g73, allP_nil⟩)⟩)⟩) ?_
                  refine W_co [] [4] [] (s' := (lCounts_R false)) (by kernel_rfl) (W_ret ?_)
                  exact ⟨.inl rfl, by cases h; rfl⟩
              · replace h := bif_f h g72
                refine W_reg hT ftL_nil [(1, true), (5, false)] [] [4] [] (s' := ⟨[(4, .c (.s (.b false)))], [], []⟩) (by kernel_rfl) (allP_cons.2 ⟨g71, (allP_cons.2 ⟨g72, allP_nil⟩)⟩) ?_
                refine W_co [] [4] [] (s' := (lCounts_R false)) (by kernel_rfl) (W_ret ?_)
                exact ⟨.inl rfl, by cases h; rfl⟩
            · replace h := bif_f h g71
              refine W_reg hT ftL_nil [(1, false)] [] [4] [] (s' := ⟨[(4, .c (.s (.b false)))], [], []⟩) (by kernel_rfl) (allP_cons.2 ⟨g71, allP_nil⟩) ?_
              refine W_co [] [4] [] (s' := (lCounts_R false)) (by kernel_rfl) (W_ret ?_)
              exact ⟨.inl rfl, by cases h; rfl⟩
  · rintro e s' ⟨he, rfl⟩
    refine ⟨he, fun a' w' hr => ?_⟩
    exact retS_ok tabO_pc hr (rs := [.tmp 4]) rfl (objs := []) (by kernel_rfl)
end Go.Proofs.Ytliilihbnhdemaa
