import Derived.Test.YtliilihbnhdemaaZ2
import Derived.Test.YtliilihbnhdemaaProg
section
set_option linter.unusedVariables false
set_option linter.unusedSimpArgs false
namespace Go.Proofs.Ytliilihbnhdemaa
open Go.RowKit Go.Ch Go.Sx

def tabL_px : List (TypeId × Ti) := [(3, ⟨.int .i64, 1, 8, true, some [.int .i64]⟩),
  (5, ⟨.int .u8, 1, 1, true, some [.int .u8]⟩),
  (9, ⟨.str, 1, 16, true, some [.str]⟩),
  (22, ⟨.sl 5, 1, 24, false, some [.nils]⟩),
  (28, ⟨.ifc, 1, 16, true, some [.ifc]⟩),
  (31, ⟨.int .i64, 1, 8, true, some [.int .i64]⟩),
  (45, ⟨.st [(22, 0), (3, 1)], 2, 32, false, some [.nils, .int .i64]⟩)]
def tab_px : Tab := fun t => (tabL_px).lookup t
theorem tabE_px : (tabL_px.map fun p => tiOf Try.prog p.1) = tabL_px.map fun p => some p.2 := by kernel_rfl
theorem tabO_px : TabOk Try.prog tab_px := tab_of tabE_px

def pfits (n : Nat) (a0_0 : List UInt8) (a0_1 : Int) : Option (Bool) :=
  bif (decide (a0_1 < (0 : Int))) then
    some (a0_1 == 0)
  else
    bif (decide ((7 : Int) < a0_1)) then
      some (a0_1 == 0)
    else
      bif (((a0_0.length : Nat) : Int) == 0) then
        some (a0_1 == 0)
      else
        gd (okI .i64 (((a0_0.length : Nat) : Int) - 1)) <|
        gd (0 ≤ (((a0_0.length : Nat) : Int) - 1)) <|
        gd ((((a0_0.length : Nat) : Int) - 1) < ((a0_0.length : Nat) : Int)) <|
        gd (0 ≤ a0_1) <|
        some (((a0_0.getD ((((a0_0.length : Nat) : Int) - 1).toNat) 0) &&& ((shl8 1 a0_1) - (1 : UInt8))) == 0)
def pBits (n : Nat) (a0_0 : List UInt8) (a0_1 : Int) : Option (List UInt8 × Option Int) :=
  (pfits n a0_0 a0_1).bind fun r5 =>
  bif (!r5) then
    some ([], (some 1))
  else
    gd (rmB (1 + a0_0.length) 1) <|
    some (([(UInt8.ofInt a0_1)] ++ a0_0), none)
def pReadBits (n : Nat) (a0 : List UInt8) : Option (List UInt8 × Int × Option Int) :=
  bif (((a0.length : Nat) : Int) == 0) then
    some ([], 0, (some 2))
  else
    gd (0 ≤ (1 : Int)) <|
    gd ((1 : Int) ≤ ((a0.length : Nat) : Int)) <|
    gd ((((a0.drop 1).take (a0.length - 1))).length ≤ 1000000000000) <|
    gd (0 ≤ (0 : Int)) <|
    gd ((0 : Int) < ((a0.length : Nat) : Int)) <|
    (pfits n ((a0.drop 1).take (a0.length - 1)) (((a0.getD 0 0).toNat : Nat) : Int)).bind fun r19 =>
    bif (!r19) then
      some ([], 0, (some 2))
    else
      some (((a0.drop 1).take (a0.length - 1)), (((a0.getD 0 0).toNat : Nat) : Int), none)
def rBits_l1 (n : Nat) (a0_0 : List UInt8) (a0_1 : Int) : Nat → Int → Int → Option (Bool)
  | 0, _, _ => none
  | fu_l1 + 1, i4_1, i5_1 =>
    bif (decide (i5_1 < a0_1)) then
      gd (okI .i64 (i4_1 * 2)) <|
      gd (okI .i64 (i5_1 + 1)) <|
      (rBits_l1 n a0_0 a0_1 fu_l1) (i4_1 * 2) (i5_1 + 1)
    else
      gd (i4_1 ≠ 0) <|
      some ((Int.tmod (((a0_0.getD ((((a0_0.length : Nat) : Int) - 1).toNat) 0).toNat : Nat) : Int) i4_1) == 0)
def rBits (n : Nat) (a0_0 : List UInt8) (a0_1 : Int) : Option (Bool) :=
  bif (((a0_0.length : Nat) : Int) == 0) then
    some (a0_1 == 0)
  else
    bif (decide (a0_1 < (0 : Int))) then
      some false
    else
      bif (decide ((7 : Int) < a0_1)) then
        some false
      else
        gd (okI .i64 (((a0_0.length : Nat) : Int) - 1)) <|
        gd (0 ≤ (((a0_0.length : Nat) : Int) - 1)) <|
        gd ((((a0_0.length : Nat) : Int) - 1) < ((a0_0.length : Nat) : Int)) <|
        rBits_l1 n a0_0 a0_1 n 1 0
def lBits (n : Nat) (a0_0 : List UInt8) (a0_1 : Int) (a1 : List UInt8) : Option (Bool) :=
  (pup n).bind fun r13 =>
  bif (decide ((300 : Int) < ((a0_0.length : Nat) : Int))) then
    some r13
  else
    bif (decide ((300 : Int) < ((a1.length : Nat) : Int))) then
      some r13
    else
      (pBits n a0_0 a0_1).bind fun r26 =>
      (rBits n a0_0 a0_1).bind fun r30 =>
      bif (!r30) then
        gd (¬((r26.2 : Option Int) = none ∧ ((some 1) : Option Int) = none)) <|
        bif (!(r26.2 == (some 1))) then
          some false
        else
          bif (((r26.1.length : Nat) : Int) != 0) then
            some false
          else
            bif r30 then
              bif (!((r26.2).isNone)) then
                some false
              else
                gd (rmB (1 + a0_0.length) 1) <|
                bif (r26.1 != ([(UInt8.ofInt a0_1)] ++ a0_0)) then
                  some false
                else
                  (pReadBits n a1).bind fun r65 =>
                  bif (((a1.length : Nat) : Int) == 0) then
                    bif r13 then
                      gd (¬((r65.2.2 : Option Int) = none ∧ ((some 2) : Option Int) = none)) <|
                      bif (r65.2.2 == (some 2)) then
                        bif (((r65.1.length : Nat) : Int) == 0) then
                          some (r65.2.1 == 0)
                        else
                          some false
                      else
                        some false
                    else
                      some false
                  else
                    gd (0 ≤ (1 : Int)) <|
                    gd ((1 : Int) ≤ ((a1.length : Nat) : Int)) <|
                    gd (0 ≤ (0 : Int)) <|
                    gd ((0 : Int) < ((a1.length : Nat) : Int)) <|
                    (rBits n ((a1.drop 1).take (a1.length - 1)) (((a1.getD 0 0).toNat : Nat) : Int)).bind fun r96 =>
                    bif (!r96) then
                      bif r13 then
                        gd (¬((r65.2.2 : Option Int) = none ∧ ((some 2) : Option Int) = none)) <|
                        bif (r65.2.2 == (some 2)) then
                          bif (((r65.1.length : Nat) : Int) == 0) then
                            some (r65.2.1 == 0)
                          else
                            some false
                        else
                          some false
                      else
                        some false
                    else
                      bif r13 then
                        bif ((r65.2.2).isNone) then
                          bif (r65.1 == ((a1.drop 1).take (a1.length - 1))) then
                            some (r65.2.1 == (((a1.getD 0 0).toNat : Nat) : Int))
                          else
                            some false
                        else
                          some false
                      else
                        some false
            else
              (pReadBits n a1).bind fun r65 =>
              bif (((a1.length : Nat) : Int) == 0) then
                bif r13 then
                  gd (¬((r65.2.2 : Option Int) = none ∧ ((some 2) : Option Int) = none)) <|
                  bif (r65.2.2 == (some 2)) then
                    bif (((r65.1.length : Nat) : Int) == 0) then
                      some (r65.2.1 == 0)
                    else
                      some false
                  else
                    some false
                else
                  some false
              else
                gd (0 ≤ (1 : Int)) <|
                gd ((1 : Int) ≤ ((a1.length : Nat) : Int)) <|
                gd (0 ≤ (0 : Int)) <|
                gd ((0 : Int) < ((a1.length : Nat) : Int)) <|
                (rBits n ((a1.drop 1).take (a1.length - 1)) (((a1.getD 0 0).toNat : Nat) : Int)).bind fun r96 =>
                bif (!r96) then
                  bif r13 then
                    gd (¬((r65.2.2 : Option Int) = none ∧ ((some 2) : Option Int) = none)) <|
                    bif (r65.2.2 == (some 2)) then
                      bif (((r65.1.length : Nat) : Int) == 0) then
                        some (r65.2.1 == 0)
                      else
                        some false
                    else
                      some false
                  else
                    some false
                else
                  bif r13 then
                    bif ((r65.2.2).isNone) then
                      bif (r65.1 == ((a1.drop 1).take (a1.length - 1))) then
                        some (r65.2.1 == (((a1.getD 0 0).toNat : Nat) : Int))
                      else
                        some false
                    else
                      some false
                  else
                    some false
      else
        bif r30 then
          bif (!((r26.2).isNone)) then
            some false
          else
            gd (rmB (1 + a0_0.length) 1) <|
            bif (r26.1 != ([(UInt8.ofInt a0_1)] ++ a0_0)) then
              some false
            else
              (pReadBits n a1).bind fun r65 =>
              bif (((a1.length : Nat) : Int) == 0) then
                bif r13 then
                  gd (¬((r65.2.2 : Option Int) = none ∧ ((some 2) : Option Int) = none)) <|
                  bif (r65.2.2 == (some 2)) then
                    bif (((r65.1.length : Nat) : Int) == 0) then
                      some (r65.2.1 == 0)
                    else
                      some false
                  else
                    some false
                else
                  some false
              else
                gd (0 ≤ (1 : Int)) <|
                gd ((1 : Int) ≤ ((a1.length : Nat) : Int)) <|
                gd (0 ≤ (0 : Int)) <|
                gd ((0 : Int) < ((a1.length : Nat) : Int)) <|
                (rBits n ((a1.drop 1).take (a1.length - 1)) (((a1.getD 0 0).toNat : Nat) : Int)).bind fun r96 =>
                bif (!r96) then
                  bif r13 then
                    gd (¬((r65.2.2 : Option Int) = none ∧ ((some 2) : Option Int) = none)) <|
                    bif (r65.2.2 == (some 2)) then
                      bif (((r65.1.length : Nat) : Int) == 0) then
                        some (r65.2.1 == 0)
                      else
                        some false
                    else
                      some false
                  else
                    some false
                else
                  bif r13 then
                    bif ((r65.2.2).isNone) then
                      bif (r65.1 == ((a1.drop 1).take (a1.length - 1))) then
                        some (r65.2.1 == (((a1.getD 0 0).toNat : Nat) : Int))
                      else
                        some false
                    else
                      some false
                  else
                    some false
        else
          (pReadBits n a1).bind fun r65 =>
          bif (((a1.length : Nat) : Int) == 0) then
            bif r13 then
              gd (¬((r65.2.2 : Option Int) = none ∧ ((some 2) : Option Int) = none)) <|
              bif (r65.2.2 == (some 2)) then
                bif (((r65.1.length : Nat) : Int) == 0) then
                  some (r65.2.1 == 0)
                else
                  some false
              else
                some false
            else
              some false
          else
            gd (0 ≤ (1 : Int)) <|
            gd ((1 : Int) ≤ ((a1.length : Nat) : Int)) <|
            gd (0 ≤ (0 : Int)) <|
            gd ((0 : Int) < ((a1.length : Nat) : Int)) <|
            (rBits n ((a1.drop 1).take (a1.length - 1)) (((a1.getD 0 0).toNat : Nat) : Int)).bind fun r96 =>
            bif (!r96) then
              bif r13 then
                gd (¬((r65.2.2 : Option Int) = none ∧ ((some 2) : Option Int) = none)) <|
                bif (r65.2.2 == (some 2)) then
                  bif (((r65.1.length : Nat) : Int) == 0) then
                    some (r65.2.1 == 0)
                  else
                    some false
                else
                  some false
              else
                some false
            else
              bif r13 then
                bif ((r65.2.2).isNone) then
                  bif (r65.1 == ((a1.drop 1).take (a1.length - 1))) then
                    some (r65.2.1 == (((a1.getD 0 0).toNat : Nat) : Int))
                  else
                    some false
                else
                  some false
              else
                some false

def pfits_R (r : Bool) : S := ⟨[(2, .c (.s (.b r)))], [], []⟩
def pfits_ct (n : Nat) (r : Bool) : Ct := fun args H => match args with
  | [x0] => (match aGc 2 x0 with | some y0 => (match aB H (.c (y0.getD 0 .junk)) with | some l0_0 => (match aI (.c (y0.getD 1 .junk)) with | some l0_1 => some ([pfits n l0_0 l0_1 = some r], shA H.length (.c (.s (.b r))), shH H.length []) | none => none) | none => none) | none => none)
  | _ => none
theorem pfits_ok (n : Nat) (r : Bool) : FnOk Try.prog Tr 55 (pfits_ct n r) := by
  refine ⟨fun args H g av objs hF hg ρ w vals hG hp ha => ?_, _, Try.func55, by kernel_rfl, by kernel_rfl⟩
  obtain ⟨x0, rfl⟩ : ∃ x0, args = [x0] := by
    unfold pfits_ct at hF; split at hF
    · exact ⟨_, rfl⟩
    · cases hF
  cases e0 : aGc 2 x0 with
  | none => simp only [pfits_ct, e0, reduceCtorEq] at hF
  | some y0 =>
  cases e1 : aB H (.c (y0.getD 0 .junk)) with
  | none => simp only [pfits_ct, e0, e1, reduceCtorEq] at hF
  | some l0_0 =>
  cases e2 : aI (.c (y0.getD 1 .junk)) with
  | none => simp only [pfits_ct, e0, e1, e2, reduceCtorEq] at hF
  | some l0_1 =>
  simp only [pfits_ct, e0, e1, e2, Option.some.injEq, Prod.mk.injEq] at hF
  obtain ⟨rfl, rfl, rfl⟩ := hF
  obtain ⟨v0, vals, rfl, k0, ha⟩ := F2.inv ha
  obtain rfl := F2.inv0 ha
  have hI : ∀ w', Kp (noB (fun _ => undef)) w w' → Tr w' := fun _ hk => Tr.keep hk.below hG
  have h : pfits n l0_0 l0_1 = some r := hg
  obtain ⟨vs0, hn0, rfl, hy0⟩ := aGc_ok e0 k0
  obtain ⟨p0_0, s0_0, o0_0⟩ := aB_ok hp e1 (hy0 0 (by decide)) 5
  have s0_1 := aI_ok e2 (hy0 1 (by decide))
  have hR0 := rel0 (gv := (fun _ => undef)) (n := 34) (w := w) (args := [.g 2 (.c [.wh 0, .s (.k .i64 l0_1)])]) (H := [⟨.ro false, 5, 1, l0_0.length, .b l0_0⟩]) (gl := []) (hpL (ps := [p0_0]) (F2.cons o0_0 F2.nil)) (allRo_ok rfl) (F2.cons ⟨vs0, (by rw [lstE undef hn0]; exact (F2.cons s0_0 (F2.cons s0_1 F2.nil))), hn0, rfl⟩ F2.nil) GlR.nil (by simp)
  clear ha hp hg k0 e0 e1 e2
  refine calls_W Try.func55 rfl rfl hR0 (Q := fun e s => (e = .ret ∨ e = .normal) ∧ s = pfits_R r) ?_ ?_
  · clear hR0
    unfold pfits at h
    have hT := tabO_px
    refine W_seq ?_
    refine W_reg hT ftL_nil [] [] [1] [1, 0] (s' := ⟨[(1, .c (.pt 0 0))], [], [⟨.blk, 45, 1, 2, .c [.wh 1, .s (.k .i64 l0_1)]⟩, ⟨(.ro false), 5, 1, l0_0.length, .b l0_0⟩]⟩) (by kernel_rfl) allP_nil ?_
    refine W_seq ?_
    refine W_seq ?_
    rcases Bool.eq_false_or_eq_true (decide (l0_1 < (0 : Int))) with g1 | g1
    · replace h := bif_t h g1
      refine W_reg hT ftL_nil [(3, true)] [] [1, 16] [0, 1] (s' := ⟨[(1, .c (.pt 0 0)), (16, .c (.s (.b true)))], [], [⟨.blk, 45, 1, 2, .c [.wh 1, .s (.k .i64 l0_1)]⟩, ⟨(.ro false), 5, 1, l0_0.length, .b l0_0⟩]⟩) (by kernel_rfl) (allP_cons.2 ⟨g1, allP_nil⟩) ?_
      refine W_cond (b := true) (by kernel_rfl) (fun _ => ?_) (fun hb => by cases hb)
      refine W_seq ?_
      refine W_reg hT ftL_nil [] [] [2] [] (s' := ⟨[(2, .c (.s (.b (l0_1 == 0))))], [], []⟩) (by kernel_rfl) allP_nil ?_
      refine W_co [] [2] [] (s' := (pfits_R (l0_1 == 0))) (by kernel_rfl) (W_ret ?_)
      exact ⟨.inl rfl, by cases h; rfl⟩
    · replace h := bif_f h g1
      rcases Bool.eq_false_or_eq_true (decide ((7 : Int) < l0_1)) with g2 | g2
      · replace h := bif_t h g2
        refine W_reg hT ftL_nil [(3, false), (8, true)] [] [1, 16] [0, 1] (s' := ⟨[(1, .c (.pt 0 0)), (16, .c (.s (.b true)))], [], [⟨.blk, 45, 1, 2, .c [.wh 1, .s (.k .i64 l0_1)]⟩, ⟨(.ro false), 5, 1, l0_0.length, .b l0_0⟩]⟩) (by kernel_rfl) (allP_cons.2 ⟨g1, (allP_cons.2 ⟨g2, allP_nil⟩)⟩) ?_
        refine W_cond (b := true) (by kernel_rfl) (fun _ => ?_) (fun hb => by cases hb)
        refine W_seq ?_
        refine W_reg hT ftL_nil [] [] [2] [] (s' := ⟨[(2, .c (.s (.b (l0_1 == 0))))], [], []⟩) (by kernel_rfl) allP_nil ?_
        refine W_co [] [2] [] (s' := (pfits_R (l0_1 == 0))) (by kernel_rfl) (W_ret ?_)
        exact ⟨.inl rfl, by cases h; rfl⟩
      · replace h := bif_f h g2
        refine W_reg hT ftL_nil [(3, false), (8, false)] [] [1, 16] [0, 1] (s' := ⟨[(1, .c (.pt 0 0)), (16, .c (.s (.b (((l0_0.length : Nat) : Int) == 0))))], [], [⟨.blk, 45, 1, 2, .c [.wh 1, .s (.k .i64 l0_1)]⟩, ⟨(.ro false), 5, 1, l0_0.length, .b l0_0⟩]⟩) (by kernel_rfl) (allP_cons.2 ⟨g1, (allP_cons.2 ⟨g2, allP_nil⟩)⟩) ?_
        refine W_cond (b := (((l0_0.length : Nat) : Int) == 0)) (by kernel_rfl) (fun g7 => ?_) (fun g7 => ?_)
        · replace h := bif_t h g7
          refine W_seq ?_
          refine W_reg hT ftL_nil [] [] [2] [] (s' := ⟨[(2, .c (.s (.b (l0_1 == 0))))], [], []⟩) (by kernel_rfl) allP_nil ?_
          refine W_co [] [2] [] (s' := (pfits_R (l0_1 == 0))) (by kernel_rfl) (W_ret ?_)
          exact ⟨.inl rfl, by cases h; rfl⟩
        · replace h := bif_f h g7
          refine W_co [] [1] [0, 1] (s' := ⟨[(1, .c (.pt 0 0))], [], [⟨.blk, 45, 1, 2, .c [.wh 1, .s (.k .i64 l0_1)]⟩, ⟨(.ro false), 5, 1, l0_0.length, .b l0_0⟩]⟩) (by kernel_rfl) (W_skip ?_)
          refine W_seq ?_
          obtain ⟨g3, h⟩ := gd_some h
          obtain ⟨g4, h⟩ := gd_some h
          obtain ⟨g5, h⟩ := gd_some h
          obtain ⟨g6, h⟩ := gd_some h
          refine W_regD hT ftL_nil (by kernel_rfl) 12 [] [(27, false), (31, false)] [] [2] [] (s' := ⟨[(2, .c (.s (.b (((l0_0.getD ((((l0_0.length : Nat) : Int) - 1).toNat) 0) &&& ((shl8 1 l0_1) - (1 : UInt8))) == 0))))], [], []⟩) (by kernel_rfl) (by kernel_rfl) (allP_cons.2 ⟨g3, (allP_cons.2 ⟨g4, (allP_cons.2 ⟨g5, (allP_cons.2 ⟨g6, allP_nil⟩)⟩)⟩)⟩) ?_
          refine W_co [] [2] [] (s' := (pfits_R (((l0_0.getD ((((l0_0.length : Nat) : Int) - 1).toNat) 0) &&& ((shl8 1 l0_1) - (1 : UInt8))) == 0))) (by kernel_rfl) (W_ret ?_)
          exact ⟨.inl rfl, by cases h; rfl⟩
  · rintro e s' ⟨he, rfl⟩
    refine ⟨he, fun a' w' hr => ?_⟩
    exact retS_ok tabO_px hr (rs := [.tmp 2]) rfl (objs := []) (by kernel_rfl)
def pBits_R (r : List UInt8 × Option Int) : S := ⟨[(2, .c (.wh 0)), (3, .c (.s (.er 31 .i64 r.2)))], [], [⟨.row, 5, 1, r.1.length, .b r.1⟩]⟩
def pBits_ct (n : Nat) (r : List UInt8 × Option Int) : Ct := fun args H => match args with
  | [x0] => (match aGc 2 x0 with | some y0 => (match aB H (.c (y0.getD 0 .junk)) with | some l0_0 => (match aI (.c (y0.getD 1 .junk)) with | some l0_1 => some ([pBits n l0_0 l0_1 = some r], shA H.length (.t [.c (.wh 0), .c (.s (.er 31 .i64 r.2))]), shH H.length [⟨.row, 5, 1, r.1.length, .b r.1⟩]) | none => none) | none => none) | none => none)
  | _ => none
theorem pBits_ok (n : Nat) (r : List UInt8 × Option Int) : FnOk Try.prog Tr 24 (pBits_ct n r) := by
  refine ⟨fun args H g av objs hF hg ρ w vals hG hp ha => ?_, _, Try.func24, by kernel_rfl, by kernel_rfl⟩
  obtain ⟨x0, rfl⟩ : ∃ x0, args = [x0] := by
    unfold pBits_ct at hF; split at hF
    · exact ⟨_, rfl⟩
    · cases hF
  cases e0 : aGc 2 x0 with
  | none => simp only [pBits_ct, e0, reduceCtorEq] at hF
  | some y0 =>
  cases e1 : aB H (.c (y0.getD 0 .junk)) with
  | none => simp only [pBits_ct, e0, e1, reduceCtorEq] at hF
  | some l0_0 =>
  cases e2 : aI (.c (y0.getD 1 .junk)) with
  | none => simp only [pBits_ct, e0, e1, e2, reduceCtorEq] at hF
  | some l0_1 =>
  simp only [pBits_ct, e0, e1, e2, Option.some.injEq, Prod.mk.injEq] at hF
  obtain ⟨rfl, rfl, rfl⟩ := hF
  obtain ⟨v0, vals, rfl, k0, ha⟩ := F2.inv ha
  obtain rfl := F2.inv0 ha
  have hI : ∀ w', Kp (noB (fun _ => undef)) w w' → Tr w' := fun _ hk => Tr.keep hk.below hG
  have h : pBits n l0_0 l0_1 = some r := hg
  obtain ⟨vs0, hn0, rfl, hy0⟩ := aGc_ok e0 k0
  obtain ⟨p0_0, s0_0, o0_0⟩ := aB_ok hp e1 (hy0 0 (by decide)) 5
  have s0_1 := aI_ok e2 (hy0 1 (by decide))
  have hR0 := rel0 (gv := (fun _ => undef)) (n := 15) (w := w) (args := [.g 2 (.c [.wh 0, .s (.k .i64 l0_1)])]) (H := [⟨.ro false, 5, 1, l0_0.length, .b l0_0⟩]) (gl := []) (hpL (ps := [p0_0]) (F2.cons o0_0 F2.nil)) (allRo_ok rfl) (F2.cons ⟨vs0, (by rw [lstE undef hn0]; exact (F2.cons s0_0 (F2.cons s0_1 F2.nil))), hn0, rfl⟩ F2.nil) GlR.nil (by simp)
  clear ha hp hg k0 e0 e1 e2
  refine calls_W Try.func24 rfl rfl hR0 (Q := fun e s => (e = .ret ∨ e = .normal) ∧ s = pBits_R r) ?_ ?_
  · clear hR0
    unfold pBits at h
    have hT := tabO_px
    refine W_seq ?_
    refine W_reg hT ftL_nil [] [] [1] [1, 0] (s' := ⟨[(1, .c (.pt 0 0))], [], [⟨.blk, 45, 1, 2, .c [.wh 1, .s (.k .i64 l0_1)]⟩, ⟨(.ro false), 5, 1, l0_0.length, .b l0_0⟩]⟩) (by kernel_rfl) allP_nil ?_
    refine W_seq ?_
    refine W_seq ?_
    obtain ⟨r5, g1, h⟩ := bind_some' h
    refine W_reg hT (ftL_cons (k := 1) (f := 55) (F := (pfits_ct n r5)) (pfits_ok n r5) (fun _ _ => True.intro) ftL_nil) [] [] [1, 6] [0, 1] (s' := ⟨[(1, .c (.pt 0 0)), (6, .c (.s (.b (!r5))))], [], [⟨.blk, 45, 1, 2, .c [.wh 1, .s (.k .i64 l0_1)]⟩, ⟨(.ro false), 5, 1, l0_0.length, .b l0_0⟩]⟩) (by kernel_rfl) (allP_cons.2 ⟨g1, allP_nil⟩) ?_
    refine W_cond (b := (!r5)) (by kernel_rfl) (fun g3 => ?_) (fun g3 => ?_)
    · replace h := bif_t h g3
      refine W_seq ?_
      refine W_reg hT ftL_nil [] [] [2, 3] [] (s' := ⟨[(2, .c (.nils)), (3, .c (.s (.er 31 .i64 (some 1))))], [], []⟩) (by kernel_rfl) allP_nil ?_
      refine W_co [.nil 2 5 1 (.b [])] [2, 3] [0] (s' := (pBits_R ([], (some 1)))) (by kernel_rfl) (W_ret ?_)
      exact ⟨.inl rfl, by cases h; rfl⟩
    · replace h := bif_f h g3
      refine W_co [] [1] [0, 1] (s' := ⟨[(1, .c (.pt 0 0))], [], [⟨.blk, 45, 1, 2, .c [.wh 1, .s (.k .i64 l0_1)]⟩, ⟨(.ro false), 5, 1, l0_0.length, .b l0_0⟩]⟩) (by kernel_rfl) (W_skip ?_)
      refine W_seq ?_
      obtain ⟨g2, h⟩ := gd_some h
      refine W_reg hT ftL_nil [] [] [2, 3] [3] (s' := ⟨[(2, .c (.wh 0)), (3, .c (.s (.v .nilIface)))], [], [⟨.row, 5, 1, ([(UInt8.ofInt l0_1)] ++ l0_0).length, .b ([(UInt8.ofInt l0_1)] ++ l0_0)⟩]⟩) (by kernel_rfl) (allP_cons.2 ⟨g2, allP_nil⟩) ?_
      refine W_co [.er 3 31 .i64] [2, 3] [0] (s' := (pBits_R (([(UInt8.ofInt l0_1)] ++ l0_0), none))) (by kernel_rfl) (W_ret ?_)
      exact ⟨.inl rfl, by cases h; rfl⟩
  · rintro e s' ⟨he, rfl⟩
    refine ⟨he, fun a' w' hr => ?_⟩
    exact retS_ok tabO_px hr (rs := [.tmp 2, .tmp 3]) rfl (objs := [0]) (by kernel_rfl)
def pReadBits_R (r : List UInt8 × Int × Option Int) : S := ⟨[(2, .c (.pt 0 0)), (3, .c (.s (.er 31 .i64 r.2.2)))], [], [⟨.blk, 45, 1, 2, .c [.wh 1, .s (.k .i64 r.2.1)]⟩, ⟨.row, 5, 1, r.1.length, .b r.1⟩]⟩
def pReadBits_ct (n : Nat) (r : List UInt8 × Int × Option Int) : Ct := fun args H => match args with
  | [x0] => (match aB H x0 with | some l0 => some ([pReadBits n l0 = some r], shA H.length (.t [.g 2 (.c [.wh 0, .s (.k .i64 r.2.1)]), .c (.s (.er 31 .i64 r.2.2))]), shH H.length [⟨.row, 5, 1, r.1.length, .b r.1⟩]) | none => none)
  | _ => none
theorem pReadBits_ok (n : Nat) (r : List UInt8 × Int × Option Int) : FnOk Try.prog Tr 26 (pReadBits_ct n r) := by
  refine ⟨fun args H g av objs hF hg ρ w vals hG hp ha => ?_, _, Try.func26, by kernel_rfl, by kernel_rfl⟩
  obtain ⟨x0, rfl⟩ : ∃ x0, args = [x0] := by
    unfold pReadBits_ct at hF; split at hF
    · exact ⟨_, rfl⟩
    · cases hF
  cases e0 : aB H x0 with
  | none => simp only [pReadBits_ct, e0, reduceCtorEq] at hF
  | some l0 =>
  simp only [pReadBits_ct, e0, Option.some.injEq, Prod.mk.injEq] at hF
  obtain ⟨rfl, rfl, rfl⟩ := hF
  obtain ⟨v0, vals, rfl, k0, ha⟩ := F2.inv ha
  obtain rfl := F2.inv0 ha
  have hI : ∀ w', Kp (noB (fun _ => undef)) w w' → Tr w' := fun _ hk => Tr.keep hk.below hG
  have h : pReadBits n l0 = some r := hg
  obtain ⟨p0, s0, o0⟩ := aB_ok hp e0 (k0) 5
  have hR0 := rel0 (gv := (fun _ => undef)) (n := 24) (w := w) (args := [.c (.wh 0)]) (H := [⟨.ro false, 5, 1, l0.length, .b l0⟩]) (gl := []) (hpL (ps := [p0]) (F2.cons o0 F2.nil)) (allRo_ok rfl) (F2.cons s0 F2.nil) GlR.nil (by simp)
  clear ha hp hg k0 e0
  refine calls_W Try.func26 rfl rfl hR0 (Q := fun e s => (e = .ret ∨ e = .normal) ∧ s = pReadBits_R r) ?_ ?_
  · clear hR0
    unfold pReadBits at h
    have hT := tabO_px
    refine W_seq ?_
    refine W_reg hT ftL_nil [] [] [0, 2] [0, 1] (s' := ⟨[(0, .c (.wh 0)), (2, .c (.pt 1 0))], [], [⟨(.ro false), 5, 1, l0.length, .b l0⟩, ⟨.blk, 45, 1, 2, .c [.nils, .s (.k .i64 0)]⟩]⟩) (by kernel_rfl) allP_nil ?_
    refine W_seq ?_
    refine W_seq ?_
    refine W_reg hT ftL_nil [] [] [0, 2, 7] [0, 1] (s' := ⟨[(0, .c (.wh 0)), (2, .c (.pt 1 0)), (7, .c (.s (.b (((l0.length : Nat) : Int) == 0))))], [], [⟨(.ro false), 5, 1, l0.length, .b l0⟩, ⟨.blk, 45, 1, 2, .c [.nils, .s (.k .i64 0)]⟩]⟩) (by kernel_rfl) allP_nil ?_
    refine W_cond (b := (((l0.length : Nat) : Int) == 0)) (by kernel_rfl) (fun g8 => ?_) (fun g8 => ?_)
    · replace h := bif_t h g8
      refine W_seq ?_
      refine W_reg hT ftL_nil [] [] [2, 3] [1] (s' := ⟨[(2, .c (.pt 0 0)), (3, .c (.s (.er 31 .i64 (some 2))))], [], [⟨.blk, 45, 1, 2, .c [.nils, .s (.k .i64 0)]⟩]⟩) (by kernel_rfl) allP_nil ?_
      refine W_co [.nlc 0 0 5 1 (.b []) none] [2, 3] [0, 1] (s' := (pReadBits_R ([], 0, (some 2)))) (by kernel_rfl) (W_ret ?_)
      exact ⟨.inl rfl, by cases h; rfl⟩
    · replace h := bif_f h g8
      refine W_co [] [0, 2] [0, 1] (s' := ⟨[(0, .c (.wh 0)), (2, .c (.pt 1 0))], [], [⟨(.ro false), 5, 1, l0.length, .b l0⟩, ⟨.blk, 45, 1, 2, .c [.nils, .s (.k .i64 0)]⟩]⟩) (by kernel_rfl) (W_skip ?_)
      refine W_seq ?_
      obtain ⟨g1, h⟩ := gd_some h
      obtain ⟨g2, h⟩ := gd_some h
      obtain ⟨g3, h⟩ := gd_some h
      obtain ⟨g4, h⟩ := gd_some h
      obtain ⟨g5, h⟩ := gd_some h
      refine W_regD hT (ftL_cons (k := 2) (f := 49) (F := cloneb_ct) cloneb_h (fun _ _ => True.intro) ftL_nil) (by kernel_rfl) 9 [] [(2, false), (4, false), (17, false)] [] [2, 4] [1, 2, 3] (s' := ⟨[(2, .c (.pt 0 0)), (4, .c (.pt 1 0))], [], [⟨.blk, 45, 1, 2, .c [.nils, .s (.k .i64 0)]⟩, ⟨.blk, 45, 1, 2, .c [.wh 2, .s (.k .i64 (((l0.getD 0 0).toNat : Nat) : Int))]⟩, ⟨.row, 5, 1, ((l0.drop 1).take (l0.length - 1)).length, .b ((l0.drop 1).take (l0.length - 1))⟩]⟩) (by kernel_rfl) (by kernel_rfl) (allP_cons.2 ⟨g1, (allP_cons.2 ⟨g2, (allP_cons.2 ⟨g3, (allP_cons.2 ⟨g4, (allP_cons.2 ⟨g5, allP_nil⟩)⟩)⟩)⟩)⟩) ?_
      refine W_seq ?_
      refine W_seq ?_
      obtain ⟨r19, g6, h⟩ := bind_some' h
      refine W_reg hT (ftL_cons (k := 1) (f := 55) (F := (pfits_ct n r19)) (pfits_ok n r19) (fun _ _ => True.intro) ftL_nil) [] [] [2, 4, 20] [0, 1, 2] (s' := ⟨[(2, .c (.pt 0 0)), (4, .c (.pt 1 0)), (20, .c (.s (.b (!r19))))], [], [⟨.blk, 45, 1, 2, .c [.nils, .s (.k .i64 0)]⟩, ⟨.blk, 45, 1, 2, .c [.wh 2, .s (.k .i64 (((l0.getD 0 0).toNat : Nat) : Int))]⟩, ⟨.row, 5, 1, ((l0.drop 1).take (l0.length - 1)).length, .b ((l0.drop 1).take (l0.length - 1))⟩]⟩) (by kernel_rfl) (allP_cons.2 ⟨g6, allP_nil⟩) ?_
      refine W_cond (b := (!r19)) (by kernel_rfl) (fun g7 => ?_) (fun g7 => ?_)
      · replace h := bif_t h g7
        refine W_seq ?_
        refine W_reg hT ftL_nil [] [] [2, 3] [0] (s' := ⟨[(2, .c (.pt 0 0)), (3, .c (.s (.er 31 .i64 (some 2))))], [], [⟨.blk, 45, 1, 2, .c [.nils, .s (.k .i64 0)]⟩]⟩) (by kernel_rfl) allP_nil ?_
        refine W_co [.nlc 0 0 5 1 (.b []) none] [2, 3] [0, 1] (s' := (pReadBits_R ([], 0, (some 2)))) (by kernel_rfl) (W_ret ?_)
        exact ⟨.inl rfl, by cases h; rfl⟩
      · replace h := bif_f h g7
        refine W_co [] [2, 4] [0, 1, 2] (s' := ⟨[(2, .c (.pt 0 0)), (4, .c (.pt 1 0))], [], [⟨.blk, 45, 1, 2, .c [.nils, .s (.k .i64 0)]⟩, ⟨.blk, 45, 1, 2, .c [.wh 2, .s (.k .i64 (((l0.getD 0 0).toNat : Nat) : Int))]⟩, ⟨.row, 5, 1, ((l0.drop 1).take (l0.length - 1)).length, .b ((l0.drop 1).take (l0.length - 1))⟩]⟩) (by kernel_rfl) (W_skip ?_)
        refine W_seq ?_
        refine W_reg hT ftL_nil [] [] [2, 3] [0, 2] (s' := ⟨[(2, .c (.pt 0 0)), (3, .c (.s (.v .nilIface)))], [], [⟨.blk, 45, 1, 2, .c [.wh 1, .s (.k .i64 (((l0.getD 0 0).toNat : Nat) : Int))]⟩, ⟨.row, 5, 1, ((l0.drop 1).take (l0.length - 1)).length, .b ((l0.drop 1).take (l0.length - 1))⟩]⟩) (by kernel_rfl) allP_nil ?_
        refine W_co [.er 3 31 .i64] [2, 3] [0, 1] (s' := (pReadBits_R (((l0.drop 1).take (l0.length - 1)), (((l0.getD 0 0).toNat : Nat) : Int), none))) (by kernel_rfl) (W_ret ?_)
        exact ⟨.inl rfl, by cases h; rfl⟩
  · rintro e s' ⟨he, rfl⟩
    refine ⟨he, fun a' w' hr => ?_⟩
    exact retS_ok tabO_px hr (rs := [.cell 2 45, .tmp 3]) rfl (objs := [1]) (by kernel_rfl)
def rBits_l1_E (a0_0 : List UInt8) (a0_1 : Int) (i4_1 : Int) (i5_1 : Int) : S := ⟨[(1, .c (.pt 0 0)), (3, .c (.s (.k .i64 (((a0_0.getD ((((a0_0.length : Nat) : Int) - 1).toNat) 0).toNat : Nat) : Int)))), (4, .c (.s (.k .i64 i4_1))), (5, .c (.s (.k .i64 i5_1)))], [], [⟨.blk, 45, 1, 2, .c [.wh 1, .s (.k .i64 a0_1)]⟩, ⟨(.ro false), 5, 1, a0_0.length, .b a0_0⟩]⟩
def rBits_l1_P (n : Nat) (a0_0 : List UInt8) (a0_1 : Int) (r : Bool) (fu : Nat) : S → Prop := fun s => ∃ (i4_1 : Int), ∃ (i5_1 : Int), s = rBits_l1_E a0_0 a0_1 i4_1 i5_1 ∧ rBits_l1 n a0_0 a0_1 fu i4_1 i5_1 = some r
theorem rBits_l1_M {n : Nat} {a0_0 : List UInt8} {a0_1 : Int} {i4_1 : Int} {i5_1 : Int} {r : Bool} {fu : Nat} (h : rBits_l1 n a0_0 a0_1 fu i4_1 i5_1 = some r) : rBits_l1_P n a0_0 a0_1 r fu (rBits_l1_E a0_0 a0_1 i4_1 i5_1) := ⟨i4_1, i5_1, rfl, h⟩
def rBits_R (r : Bool) : S := ⟨[(2, .c (.s (.b r)))], [], []⟩
def rBits_ct (n : Nat) (r : Bool) : Ct := fun args H => match args with
  | [x0] => (match aGc 2 x0 with | some y0 => (match aB H (.c (y0.getD 0 .junk)) with | some l0_0 => (match aI (.c (y0.getD 1 .junk)) with | some l0_1 => some ([rBits n l0_0 l0_1 = some r], shA H.length (.c (.s (.b r))), shH H.length []) | none => none) | none => none) | none => none)
  | _ => none
theorem rBits_ok (n : Nat) (r : Bool) : FnOk Try.prog Tr 25 (rBits_ct n r) := by
  refine ⟨fun args H g av objs hF hg ρ w vals hG hp ha => ?_, _, Try.func25, by kernel_rfl, by kernel_rfl⟩
  obtain ⟨x0, rfl⟩ : ∃ x0, args = [x0] := by
    unfold rBits_ct at hF; split at hF
    · exact ⟨_, rfl⟩
    · cases hF
  cases e0 : aGc 2 x0 with
  | none => simp only [rBits_ct, e0, reduceCtorEq] at hF
  | some y0 =>
  cases e1 : aB H (.c (y0.getD 0 .junk)) with
  | none => simp only [rBits_ct, e0, e1, reduceCtorEq] at hF
  | some l0_0 =>
  cases e2 : aI (.c (y0.getD 1 .junk)) with
  | none => simp only [rBits_ct, e0, e1, e2, reduceCtorEq] at hF
  | some l0_1 =>
  simp only [rBits_ct, e0, e1, e2, Option.some.injEq, Prod.mk.injEq] at hF
  obtain ⟨rfl, rfl, rfl⟩ := hF
  obtain ⟨v0, vals, rfl, k0, ha⟩ := F2.inv ha
  obtain rfl := F2.inv0 ha
  have hI : ∀ w', Kp (noB (fun _ => undef)) w w' → Tr w' := fun _ hk => Tr.keep hk.below hG
  have h : rBits n l0_0 l0_1 = some r := hg
  obtain ⟨vs0, hn0, rfl, hy0⟩ := aGc_ok e0 k0
  obtain ⟨p0_0, s0_0, o0_0⟩ := aB_ok hp e1 (hy0 0 (by decide)) 5
  have s0_1 := aI_ok e2 (hy0 1 (by decide))
  have hR0 := rel0 (gv := (fun _ => undef)) (n := 42) (w := w) (args := [.g 2 (.c [.wh 0, .s (.k .i64 l0_1)])]) (H := [⟨.ro false, 5, 1, l0_0.length, .b l0_0⟩]) (gl := []) (hpL (ps := [p0_0]) (F2.cons o0_0 F2.nil)) (allRo_ok rfl) (F2.cons ⟨vs0, (by rw [lstE undef hn0]; exact (F2.cons s0_0 (F2.cons s0_1 F2.nil))), hn0, rfl⟩ F2.nil) GlR.nil (by simp)
  clear ha hp hg k0 e0 e1 e2
  refine calls_W Try.func25 rfl rfl hR0 (Q := fun e s => (e = .ret ∨ e = .normal) ∧ s = rBits_R r) ?_ ?_
  · clear hR0
    unfold rBits at h
    have hT := tabO_px
    refine W_seq ?_
    refine W_reg hT ftL_nil [] [] [1] [1, 0] (s' := ⟨[(1, .c (.pt 0 0))], [], [⟨.blk, 45, 1, 2, .c [.wh 1, .s (.k .i64 l0_1)]⟩, ⟨(.ro false), 5, 1, l0_0.length, .b l0_0⟩]⟩) (by kernel_rfl) allP_nil ?_
    refine W_seq ?_
    refine W_seq ?_
    refine W_reg hT ftL_nil [] [] [1, 9] [0, 1] (s' := ⟨[(1, .c (.pt 0 0)), (9, .c (.s (.b (((l0_0.length : Nat) : Int) == 0))))], [], [⟨.blk, 45, 1, 2, .c [.wh 1, .s (.k .i64 l0_1)]⟩, ⟨(.ro false), 5, 1, l0_0.length, .b l0_0⟩]⟩) (by kernel_rfl) allP_nil ?_
    refine W_cond (b := (((l0_0.length : Nat) : Int) == 0)) (by kernel_rfl) (fun g10 => ?_) (fun g10 => ?_)
    · replace h := bif_t h g10
      refine W_seq ?_
      refine W_reg hT ftL_nil [] [] [2] [] (s' := ⟨[(2, .c (.s (.b (l0_1 == 0))))], [], []⟩) (by kernel_rfl) allP_nil ?_
      refine W_co [] [2] [] (s' := (rBits_R (l0_1 == 0))) (by kernel_rfl) (W_ret ?_)
      exact ⟨.inl rfl, by cases h; rfl⟩
    · replace h := bif_f h g10
      refine W_co [] [1] [0, 1] (s' := ⟨[(1, .c (.pt 0 0))], [], [⟨.blk, 45, 1, 2, .c [.wh 1, .s (.k .i64 l0_1)]⟩, ⟨(.ro false), 5, 1, l0_0.length, .b l0_0⟩]⟩) (by kernel_rfl) (W_skip ?_)
      refine W_seq ?_
      refine W_seq ?_
      rcases Bool.eq_false_or_eq_true (decide (l0_1 < (0 : Int))) with g1 | g1
      · replace h := bif_t h g1
        refine W_reg hT ftL_nil [(3, true)] [] [1, 20] [0, 1] (s' := ⟨[(1, .c (.pt 0 0)), (20, .c (.s (.b true)))], [], [⟨.blk, 45, 1, 2, .c [.wh 1, .s (.k .i64 l0_1)]⟩, ⟨(.ro false), 5, 1, l0_0.length, .b l0_0⟩]⟩) (by kernel_rfl) (allP_cons.2 ⟨g1, allP_nil⟩) ?_
        refine W_cond (b := true) (by kernel_rfl) (fun _ => ?_) (fun hb => by cases hb)
        refine W_seq ?_
        refine W_reg hT ftL_nil [] [] [2] [] (s' := ⟨[(2, .c (.s (.b false)))], [], []⟩) (by kernel_rfl) allP_nil ?_
        refine W_co [] [2] [] (s' := (rBits_R false)) (by kernel_rfl) (W_ret ?_)
        exact ⟨.inl rfl, by cases h; rfl⟩
      · replace h := bif_f h g1
        refine W_reg hT ftL_nil [(3, false)] [] [1, 20] [0, 1] (s' := ⟨[(1, .c (.pt 0 0)), (20, .c (.s (.b (decide ((7 : Int) < l0_1)))))], [], [⟨.blk, 45, 1, 2, .c [.wh 1, .s (.k .i64 l0_1)]⟩, ⟨(.ro false), 5, 1, l0_0.length, .b l0_0⟩]⟩) (by kernel_rfl) (allP_cons.2 ⟨g1, allP_nil⟩) ?_
        refine W_cond (b := (decide ((7 : Int) < l0_1))) (by kernel_rfl) (fun g9 => ?_) (fun g9 => ?_)
        · replace h := bif_t h g9
          refine W_seq ?_
          refine W_reg hT ftL_nil [] [] [2] [] (s' := ⟨[(2, .c (.s (.b false)))], [], []⟩) (by kernel_rfl) allP_nil ?_
          refine W_co [] [2] [] (s' := (rBits_R false)) (by kernel_rfl) (W_ret ?_)
          exact ⟨.inl rfl, by cases h; rfl⟩
        · replace h := bif_f h g9
          refine W_co [] [1] [0, 1] (s' := ⟨[(1, .c (.pt 0 0))], [], [⟨.blk, 45, 1, 2, .c [.wh 1, .s (.k .i64 l0_1)]⟩, ⟨(.ro false), 5, 1, l0_0.length, .b l0_0⟩]⟩) (by kernel_rfl) (W_skip ?_)
          refine W_seq ?_
          obtain ⟨g2, h⟩ := gd_some h
          obtain ⟨g3, h⟩ := gd_some h
          obtain ⟨g4, h⟩ := gd_some h
          refine W_reg hT ftL_nil [] [] [1, 3] [0, 1] (s' := ⟨[(1, .c (.pt 0 0)), (3, .c (.s (.k .i64 (((l0_0.getD ((((l0_0.length : Nat) : Int) - 1).toNat) 0).toNat : Nat) : Int))))], [], [⟨.blk, 45, 1, 2, .c [.wh 1, .s (.k .i64 l0_1)]⟩, ⟨(.ro false), 5, 1, l0_0.length, .b l0_0⟩]⟩) (by kernel_rfl) (allP_cons.2 ⟨g2, (allP_cons.2 ⟨g3, (allP_cons.2 ⟨g4, allP_nil⟩)⟩)⟩) ?_
          refine W_seq ?_
          refine W_reg hT ftL_nil [] [] [1, 3, 4] [0, 1] (s' := ⟨[(1, .c (.pt 0 0)), (3, .c (.s (.k .i64 (((l0_0.getD ((((l0_0.length : Nat) : Int) - 1).toNat) 0).toNat : Nat) : Int)))), (4, .c (.s (.k .i64 1)))], [], [⟨.blk, 45, 1, 2, .c [.wh 1, .s (.k .i64 l0_1)]⟩, ⟨(.ro false), 5, 1, l0_0.length, .b l0_0⟩]⟩) (by kernel_rfl) allP_nil ?_
          refine W_seq ?_
          refine W_seq ?_
          refine W_reg hT ftL_nil [] [] [1, 3, 4, 5] [0, 1] (s' := ⟨[(1, .c (.pt 0 0)), (3, .c (.s (.k .i64 (((l0_0.getD ((((l0_0.length : Nat) : Int) - 1).toNat) 0).toNat : Nat) : Int)))), (4, .c (.s (.k .i64 1))), (5, .c (.s (.k .i64 0)))], [], [⟨.blk, 45, 1, 2, .c [.wh 1, .s (.k .i64 l0_1)]⟩, ⟨(.ro false), 5, 1, l0_0.length, .b l0_0⟩]⟩) (by kernel_rfl) allP_nil ?_
          refine W_block ?_
          refine W_co [] [1, 3, 4, 5] [0, 1] (s' := (rBits_l1_E l0_0 l0_1 1 0)) (by kernel_rfl) (W_lp ((rBits_l1_P n l0_0 l0_1 r)) n (rBits_l1_M h) ?_)
          rintro fu_l1 _ ⟨i4_1, i5_1, rfl, h⟩
          cases fu_l1 with
          | zero => cases h
          | succ fu_l1 =>
            refine ⟨fu_l1, rfl, ?_⟩
            rw [rBits_l1] at h
            refine W_seq ?_
            refine W_seq ?_
            refine W_reg hT ftL_nil [] [] [1, 3, 4, 5, 33] [0, 1] (s' := ⟨[(1, .c (.pt 0 0)), (3, .c (.s (.k .i64 (((l0_0.getD ((((l0_0.length : Nat) : Int) - 1).toNat) 0).toNat : Nat) : Int)))), (4, .c (.s (.k .i64 i4_1))), (5, .c (.s (.k .i64 i5_1))), (33, .c (.s (.b (decide (i5_1 < l0_1)))))], [], [⟨.blk, 45, 1, 2, .c [.wh 1, .s (.k .i64 l0_1)]⟩, ⟨(.ro false), 5, 1, l0_0.length, .b l0_0⟩]⟩) (by kernel_rfl) allP_nil ?_
            refine W_cond (b := (decide (i5_1 < l0_1))) (by kernel_rfl) (fun g8 => ?_) (fun g8 => ?_)
            · replace h := bif_t h g8
              refine W_co [] [1, 3, 4, 5] [0, 1] (s' := ⟨[(1, .c (.pt 0 0)), (3, .c (.s (.k .i64 (((l0_0.getD ((((l0_0.length : Nat) : Int) - 1).toNat) 0).toNat : Nat) : Int)))), (4, .c (.s (.k .i64 i4_1))), (5, .c (.s (.k .i64 i5_1)))], [], [⟨.blk, 45, 1, 2, .c [.wh 1, .s (.k .i64 l0_1)]⟩, ⟨(.ro false), 5, 1, l0_0.length, .b l0_0⟩]⟩) (by kernel_rfl) (W_skip ?_)
              refine W_seq ?_
              refine W_block ?_
              obtain ⟨g5, h⟩ := gd_some h
              refine W_reg hT ftL_nil [] [] [1, 3, 4, 5] [0, 1] (s' := ⟨[(1, .c (.pt 0 0)), (3, .c (.s (.k .i64 (((l0_0.getD ((((l0_0.length : Nat) : Int) - 1).toNat) 0).toNat : Nat) : Int)))), (4, .c (.s (.k .i64 (i4_1 * 2)))), (5, .c (.s (.k .i64 i5_1)))], [], [⟨.blk, 45, 1, 2, .c [.wh 1, .s (.k .i64 l0_1)]⟩, ⟨(.ro false), 5, 1, l0_0.length, .b l0_0⟩]⟩) (by kernel_rfl) (allP_cons.2 ⟨g5, allP_nil⟩) ?_
              obtain ⟨g6, h⟩ := gd_some h
              refine W_reg hT ftL_nil [] [] [1, 3, 4, 5] [0, 1] (s' := (rBits_l1_E l0_0 l0_1 (i4_1 * 2) (i5_1 + 1))) (by kernel_rfl) (allP_cons.2 ⟨g6, allP_nil⟩) ?_
              exact rBits_l1_M h
            · replace h := bif_f h g8
              refine W_co [] [3, 4] [] (s' := ⟨[(3, .c (.s (.k .i64 (((l0_0.getD ((((l0_0.length : Nat) : Int) - 1).toNat) 0).toNat : Nat) : Int)))), (4, .c (.s (.k .i64 i4_1)))], [], []⟩) (by kernel_rfl) (W_exit ?_)
              refine W_seq ?_
              obtain ⟨g7, h⟩ := gd_some h
              refine W_reg hT ftL_nil [] [] [2] [] (s' := ⟨[(2, .c (.s (.b ((Int.tmod (((l0_0.getD ((((l0_0.length : Nat) : Int) - 1).toNat) 0).toNat : Nat) : Int) i4_1) == 0))))], [], []⟩) (by kernel_rfl) (allP_cons.2 ⟨g7, allP_nil⟩) ?_
              refine W_co [] [2] [] (s' := (rBits_R ((Int.tmod (((l0_0.getD ((((l0_0.length : Nat) : Int) - 1).toNat) 0).toNat : Nat) : Int) i4_1) == 0))) (by kernel_rfl) (W_ret ?_)
              exact ⟨.inl rfl, by cases h; rfl⟩
  · rintro e s' ⟨he, rfl⟩
    refine ⟨he, fun a' w' hr => ?_⟩
    exact retS_ok tabO_px hr (rs := [.tmp 2]) rfl (objs := []) (by kernel_rfl)
def lBits_R (r : Bool) : S := ⟨[(4, .c (.s (.b r)))], [], []⟩
def lBits_ct (n : Nat) (r : Bool) : Ct := fun args H => match args with
  | [x0, x1] => (match aGc 2 x0 with | some y0 => (match aB H (.c (y0.getD 0 .junk)) with | some l0_0 => (match aI (.c (y0.getD 1 .junk)) with | some l0_1 => (match aB H x1 with | some l1 => some ([lBits n l0_0 l0_1 l1 = some r], shA H.length (.c (.s (.b r))), shH H.length []) | none => none) | none => none) | none => none) | none => none)
  | _ => none
theorem lBits_ok (n : Nat) (r : Bool) : FnOk Try.prog Tr 6 (lBits_ct n r) := by
  refine ⟨fun args H g av objs hF hg ρ w vals hG hp ha => ?_, _, Try.func6, by kernel_rfl, by kernel_rfl⟩
  obtain ⟨x0, x1, rfl⟩ : ∃ x0 x1, args = [x0, x1] := by
    unfold lBits_ct at hF; split at hF
    · exact ⟨_, _, rfl⟩
    · cases hF
  cases e0 : aGc 2 x0 with
  | none => simp only [lBits_ct, e0, reduceCtorEq] at hF
  | some y0 =>
  cases e1 : aB H (.c (y0.getD 0 .junk)) with
  | none => simp only [lBits_ct, e0, e1, reduceCtorEq] at hF
  | some l0_0 =>
  cases e2 : aI (.c (y0.getD 1 .junk)) with
  | none => simp only [lBits_ct, e0, e1, e2, reduceCtorEq] at hF
  | some l0_1 =>
  cases e3 : aB H x1 with
  | none => simp only [lBits_ct, e0, e1, e2, e3, reduceCtorEq] at hF
  | some l1 =>
  simp only [lBits_ct, e0, e1, e2, e3, Option.some.injEq, Prod.mk.injEq] at hF
  obtain ⟨rfl, rfl, rfl⟩ := hF
  obtain ⟨v0, vals, rfl, k0, ha⟩ := F2.inv ha
  obtain ⟨v1, vals, rfl, k1, ha⟩ := F2.inv ha
  obtain rfl := F2.inv0 ha
  have hI : ∀ w', Kp (noB (fun _ => undef)) w w' → Tr w' := fun _ hk => Tr.keep hk.below hG
  have h : lBits n l0_0 l0_1 l1 = some r := hg
  obtain ⟨vs0, hn0, rfl, hy0⟩ := aGc_ok e0 k0
  obtain ⟨p0_0, s0_0, o0_0⟩ := aB_ok hp e1 (hy0 0 (by decide)) 5
  have s0_1 := aI_ok e2 (hy0 1 (by decide))
  obtain ⟨p1, s1, o1⟩ := aB_ok hp e3 (k1) 5
  have hR0 := rel0 (gv := (fun _ => undef)) (n := 137) (w := w) (args := [.g 2 (.c [.wh 0, .s (.k .i64 l0_1)]), .c (.wh 1)]) (H := [⟨.ro false, 5, 1, l0_0.length, .b l0_0⟩, ⟨.ro false, 5, 1, l1.length, .b l1⟩]) (gl := []) (hpL (ps := [p0_0, p1]) (F2.cons o0_0 (F2.cons o1 F2.nil))) (allRo_ok rfl) (F2.cons ⟨vs0, (by rw [lstE undef hn0]; exact (F2.cons s0_0 (F2.cons s0_1 F2.nil))), hn0, rfl⟩ (F2.cons s1 F2.nil)) GlR.nil (by simp)
  clear ha hp hg k0 k1 e0 e1 e2 e3
  refine calls_W Try.func6 rfl rfl hR0 (Q := fun e s => (e = .ret ∨ e = .normal) ∧ s = lBits_R r) ?_ ?_
  · clear hR0
    unfold lBits at h
    have hT := tabO_px
    refine W_seq ?_
    refine W_reg hT ftL_nil [] [] [1, 2] [1, 2, 0] (s' := ⟨[(1, .c (.wh 0)), (2, .c (.pt 1 0))], [], [⟨(.ro false), 5, 1, l1.length, .b l1⟩, ⟨.blk, 45, 1, 2, .c [.wh 2, .s (.k .i64 l0_1)]⟩, ⟨(.ro false), 5, 1, l0_0.length, .b l0_0⟩]⟩) (by kernel_rfl) allP_nil ?_
    refine W_seq ?_
    obtain ⟨r13, g1, h⟩ := bind_some' h
    refine W_reg hT (ftL_cons (k := 0) (f := 14) (F := (pup_ct n r13)) (pup_ok n r13) (fun _ _ => True.intro) ftL_nil) [] [] [1, 2, 5] [0, 1, 2] (s' := ⟨[(1, .c (.wh 0)), (2, .c (.pt 1 0)), (5, .c (.s (.b r13)))], [], [⟨(.ro false), 5, 1, l1.length, .b l1⟩, ⟨.blk, 45, 1, 2, .c [.wh 2, .s (.k .i64 l0_1)]⟩, ⟨(.ro false), 5, 1, l0_0.length, .b l0_0⟩]⟩) (by kernel_rfl) (allP_cons.2 ⟨g1, allP_nil⟩) ?_
    refine W_seq ?_
    refine W_seq ?_
    rcases Bool.eq_false_or_eq_true (decide ((300 : Int) < ((l0_0.length : Nat) : Int))) with g2 | g2
    · replace h := bif_t h g2
      refine W_reg hT ftL_nil [(4, true)] [] [1, 2, 5, 22] [0, 1, 2] (s' := ⟨[(1, .c (.wh 0)), (2, .c (.pt 1 0)), (5, .c (.s (.b r13))), (22, .c (.s (.b true)))], [], [⟨(.ro false), 5, 1, l1.length, .b l1⟩, ⟨.blk, 45, 1, 2, .c [.wh 2, .s (.k .i64 l0_1)]⟩, ⟨(.ro false), 5, 1, l0_0.length, .b l0_0⟩]⟩) (by kernel_rfl) (allP_cons.2 ⟨g2, allP_nil⟩) ?_
      refine W_cond (b := true) (by kernel_rfl) (fun _ => ?_) (fun hb => by cases hb)
      refine W_seq ?_
      refine W_reg hT ftL_nil [] [] [4] [] (s' := ⟨[(4, .c (.s (.b r13)))], [], []⟩) (by kernel_rfl) allP_nil ?_
      refine W_co [] [4] [] (s' := (lBits_R r13)) (by kernel_rfl) (W_ret ?_)
      exact ⟨.inl rfl, by cases h; rfl⟩
    · replace h := bif_f h g2
      refine W_reg hT ftL_nil [(4, false)] [] [1, 2, 5, 22] [0, 1, 2] (s' := ⟨[(1, .c (.wh 0)), (2, .c (.pt 1 0)), (5, .c (.s (.b r13))), (22, .c (.s (.b (decide ((300 : Int) < ((l1.length : Nat) : Int))))))], [], [⟨(.ro false), 5, 1, l1.length, .b l1⟩, ⟨.blk, 45, 1, 2, .c [.wh 2, .s (.k .i64 l0_1)]⟩, ⟨(.ro false), 5, 1, l0_0.length, .b l0_0⟩]⟩) (by kernel_rfl) (allP_cons.2 ⟨g2, allP_nil⟩) ?_
      refine W_cond (b := (decide ((300 : Int) < ((l1.length : Nat) : Int)))) (by kernel_rfl) (fun g93 => ?_) (fun g93 => ?_)
      · replace h := bif_t h g93
        refine W_seq ?_
        refine W_reg hT ftL_nil [] [] [4] [] (s' := ⟨[(4, .c (.s (.b r13)))], [], []⟩) (by kernel_rfl) allP_nil ?_
        refine W_co [] [4] [] (s' := (lBits_R r13)) (by kernel_rfl) (W_ret ?_)
        exact ⟨.inl rfl, by cases h; rfl⟩
      · replace h := bif_f h g93
        refine W_co [] [1, 2, 5] [0, 1, 2] (s' := ⟨[(1, .c (.wh 0)), (2, .c (.pt 1 0)), (5, .c (.s (.b r13)))], [], [⟨(.ro false), 5, 1, l1.length, .b l1⟩, ⟨.blk, 45, 1, 2, .c [.wh 2, .s (.k .i64 l0_1)]⟩, ⟨(.ro false), 5, 1, l0_0.length, .b l0_0⟩]⟩) (by kernel_rfl) (W_skip ?_)
        refine W_seq ?_
        obtain ⟨r26, g3, h⟩ := bind_some' h
        refine W_reg hT (ftL_cons (k := 1) (f := 24) (F := (pBits_ct n r26)) (pBits_ok n r26) (fun _ _ => True.intro) ftL_nil) [] [] [1, 2, 5, 6, 7] [0, 1, 2, 3] (s' := ⟨[(1, .c (.wh 0)), (2, .c (.pt 1 0)), (5, .c (.s (.b r13))), (6, .c (.wh 3)), (7, .c (.s (.er 31 .i64 r26.2)))], [], [⟨(.ro false), 5, 1, l1.length, .b l1⟩, ⟨.blk, 45, 1, 2, .c [.wh 2, .s (.k .i64 l0_1)]⟩, ⟨(.ro false), 5, 1, l0_0.length, .b l0_0⟩, ⟨.row, 5, 1, r26.1.length, .b r26.1⟩]⟩) (by kernel_rfl) (allP_cons.2 ⟨g3, allP_nil⟩) ?_
        refine W_seq ?_
        obtain ⟨r30, g4, h⟩ := bind_some' h
        refine W_reg hT (ftL_cons (k := 1) (f := 25) (F := (rBits_ct n r30)) (rBits_ok n r30) (fun _ _ => True.intro) ftL_nil) [] [] [1, 2, 5, 6, 7, 8] [0, 1, 2, 3] (s' := ⟨[(1, .c (.wh 0)), (2, .c (.pt 1 0)), (5, .c (.s (.b r13))), (6, .c (.wh 3)), (7, .c (.s (.er 31 .i64 r26.2))), (8, .c (.s (.b r30)))], [], [⟨(.ro false), 5, 1, l1.length, .b l1⟩, ⟨.blk, 45, 1, 2, .c [.wh 2, .s (.k .i64 l0_1)]⟩, ⟨(.ro false), 5, 1, l0_0.length, .b l0_0⟩, ⟨.row, 5, 1, r26.1.length, .b r26.1⟩]⟩) (by kernel_rfl) (allP_cons.2 ⟨g4, allP_nil⟩) ?_
        refine W_seq ?_
        refine W_seq ?_
        rcases Bool.eq_false_or_eq_true (!r30) with g5 | g5
        · replace h := bif_t h g5
          obtain ⟨g6, h⟩ := gd_some h
          rcases Bool.eq_false_or_eq_true (!(r26.2 == (some 1))) with g7 | g7
          · replace h := bif_t h g7
            refine W_regG hT ftL_nil (by kernel_rfl) [(2, true), (6, true)] [0, 1, 2, 3, 4, 5, 6, 7, 8, 9, 10, 11, 12, 13, 14, 15, 16, 17, 18, 19, 20, 21, 22, 23, 24, 25, 26, 27, 28, 29, 30, 31] [[0, 1, 2, 3, 4, 5, 6, 7, 8, 9, 10, 11, 12, 13, 14, 15, 16, 17, 18, 19, 20, 21, 22, 23, 24, 25, 26, 27, 28, 29, 30, 31]] [⟨[(1, .c (.wh 0)), (2, .c (.pt 1 0)), (5, .c (.s (.b r13))), (6, .c (.wh 3)), (7, .c (.s (.er 31 .i64 r26.2))), (8, .c (.s (.b r30))), (31, .c (.s (.b r30))), (32, .c (.s (.b (!r30)))), (33, .c (.s (.b true))), (34, .c (.s (.er 31 .i64 r26.2))), (35, .c (.s (.er 31 .i64 (some 1)))), (36, .c (.s (.b (!(r26.2 == (some 1)))))), (37, .c (.s (.b true))), (38, .t []), (39, .t []), (40, .t []), (41, .c (.s (.b true))), (42, .c (.s (.b true))), (43, .c (.s (.b true))), (44, .t []), (45, .t []), (46, .t []), (47, .t []), (48, .t []), (49, .t []), (50, .t []), (51, .t []), (52, .t []), (53, .t []), (54, .t []), (55, .t []), (56, .t []), (57, .t []), (58, .t []), (59, .t []), (60, .t []), (61, .t []), (62, .c (.s (.b true)))], [], [⟨(.ro false), 5, 1, l1.length, .b l1⟩, ⟨.blk, 45, 1, 2, .c [.wh 2, .s (.k .i64 l0_1)]⟩, ⟨(.ro false), 5, 1, l0_0.length, .b l0_0⟩, ⟨.row, 5, 1, r26.1.length, .b r26.1⟩]⟩] [0, 1, 2, 3, 4, 5, 6, 7, 8, 9, 10, 11, 12, 13, 14, 15, 16, 17, 18, 19, 20, 21, 22, 23, 24, 25, 26, 27, 28, 29, 30, 31] [] [(0, 0), (0, 1), (0, 2), (0, 3), (0, 4), (0, 5), (0, 6), (0, 7), (0, 8), (0, 9), (0, 10), (0, 11), (0, 12), (0, 13), (0, 14), (0, 15), (0, 16), (0, 17), (0, 18), (0, 19), (0, 20), (0, 21), (0, 22), (0, 23), (0, 24), (0, 25), (0, 26), (0, 27), (0, 28), (0, 29), (0, 30), (0, 31)] 0 [1, 2, 5, 6, 7, 8, 31, 32, 33, 34, 35, 36, 37, 38, 39, 40, 41, 42, 43, 44, 45, 46, 47, 48, 49, 50, 51, 52, 53, 54, 55, 56, 57, 58, 59, 60, 61, 62] [0, 1, 2, 3] [] [1, 5, 62] [0] (s' := ⟨[(1, .c (.wh 0)), (5, .c (.s (.b r13))), (62, .c (.s (.b true)))], [], [⟨(.ro false), 5, 1, l1.length, .b l1⟩]⟩) (by kernel_rfl) ⟨_, (by kernel_rfl), (allP_cons.2 ⟨g5, (allP_cons.2 ⟨g6, (allP_cons.2 ⟨g7, allP_nil⟩)⟩)⟩)⟩ AllE.nil (AllR.cons ⟨_, (by kernel_rfl), allP_nil⟩ (AllR.cons ⟨_, (by kernel_rfl), allP_nil⟩ (AllR.cons ⟨_, (by kernel_rfl), (allP_cons.2 ⟨g5, allP_nil⟩)⟩ (AllR.cons ⟨_, (by kernel_rfl), allP_nil⟩ (AllR.cons ⟨_, (by kernel_rfl), allP_nil⟩ (AllR.cons ⟨_, (by kernel_rfl), (allP_cons.2 ⟨g6, allP_nil⟩)⟩ (AllR.cons ⟨_, (by kernel_rfl), (allP_cons.2 ⟨g7, allP_nil⟩)⟩ (AllR.cons ⟨_, (by kernel_rfl), allP_nil⟩ (AllR.cons ⟨_, (by kernel_rfl), allP_nil⟩ (AllR.cons ⟨_, (by kernel_rfl), allP_nil⟩ (AllR.cons ⟨_, (by kernel_rfl), allP_nil⟩ (AllR.cons ⟨_, (by kernel_rfl), allP_nil⟩ (AllR.cons ⟨_, (by kernel_rfl), allP_nil⟩ (AllR.cons ⟨_, (by kernel_rfl), allP_nil⟩ (AllR.cons ⟨_, (by kernel_rfl), allP_nil⟩ (AllR.cons ⟨_, (by kernel_rfl), allP_nil⟩ (AllR.cons ⟨_, (by kernel_rfl), allP_nil⟩ (AllR.cons ⟨_, (by kernel_rfl), allP_nil⟩ (AllR.cons ⟨_, (by kernel_rfl), allP_nil⟩ (AllR.cons ⟨_, (by kernel_rfl), allP_nil⟩ (AllR.cons ⟨_, (by kernel_rfl), allP_nil⟩ (AllR.cons ⟨_, (by kernel_rfl), allP_nil⟩ (AllR.cons ⟨_, (by kernel_rfl), allP_nil⟩ (AllR.cons ⟨_, (by kernel_rfl), allP_nil⟩ (AllR.cons ⟨_, (by kernel_rfl), allP_nil⟩ (AllR.cons ⟨_, (by kernel_rfl), allP_nil⟩ (AllR.cons ⟨_, (by kernel_rfl), allP_nil⟩ (AllR.cons ⟨_, (by kernel_rfl), allP_nil⟩ (AllR.cons ⟨_, (by kernel_rfl), allP_nil⟩ (AllR.cons ⟨_, (by kernel_rfl), allP_nil⟩ (AllR.cons ⟨_, (by kernel_rfl), allP_nil⟩ (AllR.cons ⟨_, (by kernel_rfl), allP_nil⟩ AllR.nil)))))))))))))))))))))))))))))))) (by kernel_rfl) ?_
            refine W_cond (b := true) (by kernel_rfl) (fun _ => ?_) (fun hb => by cases hb)
            refine W_seq ?_
            refine W_reg hT ftL_nil [] [] [4] [] (s' := ⟨[(4, .c (.s (.b false)))], [], []⟩) (by kernel_rfl) allP_nil ?_
            refine W_co [] [4] [] (s' := (lBits_R false)) (by kernel_rfl) (W_ret ?_)
            exact ⟨.inl rfl, by cases h; rfl⟩
          · replace h := bif_f h g7
            rcases Bool.eq_false_or_eq_true (((r26.1.length : Nat) : Int) != 0) with g8 | g8
            · replace h := bif_t h g8
              refine W_regG hT ftL_nil (by kernel_rfl) [(2, true), (6, false), (12, true)] [0, 1, 2, 3, 4, 5, 6, 7, 8, 9, 10, 11, 12, 13, 14, 15, 16, 17, 18, 19, 20, 21, 22, 23, 24, 25, 26, 27, 28, 29, 30, 31] [[0, 1, 2, 3, 4, 5, 6, 7, 8, 9, 10, 11, 12, 13, 14, 15, 16, 17, 18, 19, 20, 21, 22, 23, 24, 25, 26, 27, 28, 29, 30, 31]] [⟨[(1, .c (.wh 0)), (2, .c (.pt 1 0)), (5, .c (.s (.b r13))), (6, .c (.wh 3)), (7, .c (.s (.er 31 .i64 r26.2))), (8, .c (.s (.b r30))), (31, .c (.s (.b r30))), (32, .c (.s (.b (!r30)))), (33, .c (.s (.b true))), (34, .c (.s (.er 31 .i64 r26.2))), (35, .c (.s (.er 31 .i64 (some 1)))), (36, .c (.s (.b (!(r26.2 == (some 1)))))), (37, .c (.s (.b false))), (38, .c (.wh 3)), (39, .c (.s (.k .i64 ((r26.1.length : Nat) : Int)))), (40, .c (.s (.b (((r26.1.length : Nat) : Int) != 0)))), (41, .c (.s (.b (((r26.1.length : Nat) : Int) != 0)))), (42, .c (.s (.b (((r26.1.length : Nat) : Int) != 0)))), (43, .c (.s (.b true))), (44, .t []), (45, .t []), (46, .t []), (47, .t []), (48, .t []), (49, .t []), (50, .t []), (51, .t []), (52, .t []), (53, .t []), (54, .t []), (55, .t []), (56, .t []), (57, .t []), (58, .t []), (59, .t []), (60, .t []), (61, .t []), (62, .c (.s (.b true)))], [], [⟨(.ro false), 5, 1, l1.length, .b l1⟩, ⟨.blk, 45, 1, 2, .c [.wh 2, .s (.k .i64 l0_1)]⟩, ⟨(.ro false), 5, 1, l0_0.length, .b l0_0⟩, ⟨.row, 5, 1, r26.1.length, .b r26.1⟩]⟩] [0, 1, 2, 3, 4, 5, 6, 7, 8, 9, 10, 11, 12, 13, 14, 15, 16, 17, 18, 19, 20, 21, 22, 23, 24, 25, 26, 27, 28, 29, 30, 31] [] [(0, 0), (0, 1), (0, 2), (0, 3), (0, 4), (0, 5), (0, 6), (0, 7), (0, 8), (0, 9), (0, 10), (0, 11), (0, 12), (0, 13), (0, 14), (0, 15), (0, 16), (0, 17), (0, 18), (0, 19), (0, 20), (0, 21), (0, 22), (0, 23), (0, 24), (0, 25), (0, 26), (0, 27), (0, 28), (0, 29), (0, 30), (0, 31)] 0 [1, 2, 5, 6, 7, 8, 31, 32, 33, 34, 35, 36, 37, 38, 39, 40, 41, 42, 43, 44, 45, 46, 47, 48, 49, 50, 51, 52, 53, 54, 55, 56, 57, 58, 59, 60, 61, 62] [0, 1, 2, 3] [] [1, 5, 62] [0] (s' := ⟨[(1, .c (.wh 0)), (5, .c (.s (.b r13))), (62, .c (.s (.b true)))], [], [⟨(.ro false), 5, 1, l1.length, .b l1⟩]⟩) (by kernel_rfl) ⟨_, (by kernel_rfl), (allP_cons.2 ⟨g5, (allP_cons.2 ⟨g6, (allP_cons.2 ⟨g7, (allP_cons.2 ⟨g8, allP_nil⟩)⟩)⟩)⟩)⟩ AllE.nil (AllR.cons ⟨_, (by kernel_rfl), allP_nil⟩ (AllR.cons ⟨_, (by kernel_rfl), allP_nil⟩ (AllR.cons ⟨_, (by kernel_rfl), (allP_cons.2 ⟨g5, allP_nil⟩)⟩ (AllR.cons ⟨_, (by kernel_rfl), allP_nil⟩ (AllR.cons ⟨_, (by kernel_rfl), allP_nil⟩ (AllR.cons ⟨_, (by kernel_rfl), (allP_cons.2 ⟨g6, allP_nil⟩)⟩ (AllR.cons ⟨_, (by kernel_rfl), (allP_cons.2 ⟨g7, allP_nil⟩)⟩ (AllR.cons ⟨_, (by kernel_rfl), allP_nil⟩ (AllR.cons ⟨_, (by kernel_rfl), allP_nil⟩ (AllR.cons ⟨_, (by kernel_rfl), allP_nil⟩ (AllR.cons ⟨_, (by kernel_rfl), allP_nil⟩ (AllR.cons ⟨_, (by kernel_rfl), allP_nil⟩ (AllR.cons ⟨_, (by kernel_rfl), (allP_cons.2 ⟨g8, allP_nil⟩)⟩ (AllR.cons ⟨_, (by kernel_rfl), allP_nil⟩ (AllR.cons ⟨_, (by kernel_rfl), allP_nil⟩ (AllR.cons ⟨_, (by kernel_rfl), allP_nil⟩ (AllR.cons ⟨_, (by kernel_rfl), allP_nil⟩ (AllR.cons ⟨_, (by kernel_rfl), allP_nil⟩ (AllR.cons ⟨_, (by kernel_rfl), allP_nil⟩ (AllR.cons ⟨_, (by kernel_rfl), allP_nil⟩ (AllR.cons ⟨_, (by kernel_rfl), allP_nil⟩ (AllR.cons ⟨_, (by kernel_rfl), allP_nil⟩ (AllR.cons ⟨_, (by kernel_rfl), allP_nil⟩ (AllR.cons ⟨_, (by kernel_rfl), allP_nil⟩ (AllR.cons ⟨_, (by kernel_rfl), allP_nil⟩ (AllR.cons ⟨_, (by kernel_rfl), allP_nil⟩ (AllR.cons ⟨_, (by kernel_rfl), allP_nil⟩ (AllR.cons ⟨_, (by kernel_rfl), allP_nil⟩ (AllR.cons ⟨_, (by kernel_rfl), allP_nil⟩ (AllR.cons ⟨_, (by kernel_rfl), allP_nil⟩ (AllR.cons ⟨_, (by kernel_rfl), allP_nil⟩ (AllR.cons ⟨_, (by kernel_rfl), allP_nil⟩ AllR.nil)))))))))))))))))))))))))))))))) (by kernel_rfl) ?_
              refine W_cond (b := true) (by kernel_rfl) (fun _ => ?_) (fun hb => by cases hb)
              refine W_seq ?_
              refine W_reg hT ftL_nil [] [] [4] [] (s' := ⟨[(4, .c (.s (.b false)))], [], []⟩) (by kernel_rfl) allP_nil ?_
              refine W_co [] [4] [] (s' := (lBits_R false)) (by kernel_rfl) (W_ret ?_)
              exact ⟨.inl rfl, by cases h; rfl⟩
            · replace h := bif_f h g8
              rcases Bool.eq_false_or_eq_true r30 with g9 | g9
              · replace h := bif_t h g9
                rcases Bool.eq_false_or_eq_true (!((r26.2).isNone)) with g10 | g10
                · replace h := bif_t h g10
                  refine W_regG hT ftL_nil (by kernel_rfl) [(2, true), (6, false), (12, false), (14, true), (17, true)] [0, 1, 2, 3, 4, 5, 6, 7, 8, 9, 10, 11, 12, 13, 14, 15, 16, 17, 18, 19, 20, 21, 22, 23, 24, 25, 26, 27, 28, 29, 30, 31] [[0, 1, 2, 3, 4, 5, 6, 7, 8, 9, 10, 11, 12, 13, 14, 15, 16, 17, 18, 19, 20, 21, 22, 23, 24, 25, 26, 27, 28, 29, 30, 31]] [⟨[(1, .c (.wh 0)), (2, .c (.pt 1 0)), (5, .c (.s (.b r13))), (6, .c (.wh 3)), (7, .c (.s (.er 31 .i64 r26.2))), (8, .c (.s (.b r30))), (31, .c (.s (.b r30))), (32, .c (.s (.b (!r30)))), (33, .c (.s (.b true))), (34, .c (.s (.er 31 .i64 r26.2))), (35, .c (.s (.er 31 .i64 (some 1)))), (36, .c (.s (.b (!(r26.2 == (some 1)))))), (37, .c (.s (.b false))), (38, .c (.wh 3)), (39, .c (.s (.k .i64 ((r26.1.length : Nat) : Int)))), (40, .c (.s (.b (((r26.1.length : Nat) : Int) != 0)))), (41, .c (.s (.b (((r26.1.length : Nat) : Int) != 0)))), (42, .c (.s (.b (((r26.1.length : Nat) : Int) != 0)))), (43, .c (.s (.b false))), (44, .c (.s (.b r30))), (45, .c (.s (.b true))), (46, .c (.s (.er 31 .i64 r26.2))), (47, .c (.s (.b (!((r26.2).isNone))))), (48, .c (.s (.b true))), (49, .t []), (50, .t []), (51, .t []), (52, .t []), (53, .t []), (54, .t []), (55, .t []), (56, .t []), (57, .t []), (58, .t []), (59, .t []), (60, .c (.s (.b true))), (61, .c (.s (.b true))), (62, .c (.s (.b true)))], [], [⟨(.ro false), 5, 1, l1.length, .b l1⟩, ⟨.blk, 45, 1, 2, .c [.wh 2, .s (.k .i64 l0_1)]⟩, ⟨(.ro false), 5, 1, l0_0.length, .b l0_0⟩, ⟨.row, 5, 1, r26.1.length, .b r26.1⟩]⟩] [0, 1, 2, 3, 4, 5, 6, 7, 8, 9, 10, 11, 12, 13, 14, 15, 16, 17, 18, 19, 20, 21, 22, 23, 24, 25, 26, 27, 28, 29, 30, 31] [] [(0, 0), (0, 1), (0, 2), (0, 3), (0, 4), (0, 5), (0, 6), (0, 7), (0, 8), (0, 9), (0, 10), (0, 11), (0, 12), (0, 13), (0, 14), (0, 15), (0, 16), (0, 17), (0, 18), (0, 19), (0, 20), (0, 21), (0, 22), (0, 23), (0, 24), (0, 25), (0, 26), (0, 27), (0, 28), (0, 29), (0, 30), (0, 31)] 0 [1, 2, 5, 6, 7, 8, 31, 32, 33, 34, 35, 36, 37, 38, 39, 40, 41, 42, 43, 44, 45, 46, 47, 48, 49, 50, 51, 52, 53, 54, 55, 56, 57, 58, 59, 60, 61, 62] [0, 1, 2, 3] [] [1, 5, 62] [0] (s' := ⟨[(1, .c (.wh 0)), (5, .c (.s (.b r13))), (62, .c (.s (.b true)))], [], [⟨(.ro false), 5, 1, l1.length, .b l1⟩]⟩) (by kernel_rfl) ⟨_, (by kernel_rfl), (allP_cons.2 ⟨g5, (allP_cons.2 ⟨g6, (allP_cons.2 ⟨g7, (allP_cons.2 ⟨g8, (allP_cons.2 ⟨g9, (allP_cons.2 ⟨g10, allP_nil⟩)⟩)⟩)⟩)⟩)⟩)⟩ AllE.nil (AllR.cons ⟨_, (by kernel_rfl), allP_nil⟩ (AllR.cons ⟨_, (by kernel_rfl), allP_nil⟩ (AllR.cons ⟨_, (by kernel_rfl), (allP_cons.2 ⟨g5, allP_nil⟩)⟩ (AllR.cons ⟨_, (by kernel_rfl), allP_nil⟩ (AllR.cons ⟨_, (by kernel_rfl), allP_nil⟩ (AllR.cons ⟨_, (by kernel_rfl), (allP_cons.2 ⟨g6, allP_nil⟩)⟩ (AllR.cons ⟨_, (by kernel_rfl), (allP_cons.2 ⟨g7, allP_nil⟩)⟩ (AllR.cons ⟨_, (by kernel_rfl), allP_nil⟩ (AllR.cons ⟨_, (by kernel_rfl), allP_nil⟩ (AllR.cons ⟨_, (by kernel_rfl), allP_nil⟩ (AllR.cons ⟨_, (by kernel_rfl), allP_nil⟩ (AllR.cons ⟨_, (by kernel_rfl), allP_nil⟩ (AllR.cons ⟨_, (by kernel_rfl), (allP_cons.2 ⟨g8, allP_nil⟩)⟩ (AllR.cons ⟨_, (by kernel_rfl), allP_nil⟩ (AllR.cons ⟨_, (by kernel_rfl), (allP_cons.2 ⟨g9, allP_nil⟩)⟩ (AllR.cons ⟨_, (by kernel_rfl), allP_nil⟩ (AllR.cons ⟨_, (by kernel_rfl), allP_nil⟩ (AllR.cons ⟨_, (by kernel_rfl), (allP_cons.2 ⟨g10, allP_nil⟩)⟩ (AllR.cons ⟨_, (by kernel_rfl), allP_nil⟩ (AllR.cons ⟨_, (by kernel_rfl), allP_nil⟩ (AllR.cons ⟨_, (by kernel_rfl), allP_nil⟩ (AllR.cons ⟨_, (by kernel_rfl), allP_nil⟩ (AllR.cons ⟨_, (by kernel_rfl), allP_nil⟩ (AllR.cons ⟨_, (by kernel_rfl), allP_nil⟩ (AllR.cons ⟨_, (by kernel_rfl), allP_nil⟩ (AllR.cons ⟨_, (by kernel_rfl), allP_nil⟩ (AllR.cons ⟨_, (by kernel_rfl), allP_nil⟩ (AllR.cons ⟨_, (by kernel_rfl), allP_nil⟩ (AllR.cons ⟨_, (by kernel_rfl), allP_nil⟩ (AllR.cons ⟨_, (by kernel_rfl), allP_nil⟩ (AllR.cons ⟨_, (by kernel_rfl), allP_nil⟩ (AllR.cons ⟨_, (by kernel_rfl), allP_nil⟩ AllR.nil)))))))))))))))))))))))))))))))) (by kernel_rfl) ?_
                  refine W_cond (b := true) (by kernel_rfl) (fun _ => ?_) (fun hb => by cases hb)
                  refine W_seq ?_
                  refine W_reg hT ftL_nil [] [] [4] [] (s' := ⟨[(4, .c (.s (.b false)))], [], []⟩) (by kernel_rfl) allP_nil ?_
                  refine W_co [] [4] [] (s' := (lBits_R false)) (by kernel_rfl) (W_ret ?_)
                  exact ⟨.inl rfl, by cases h; rfl⟩
                · replace h := bif_f h g10
                  obtain ⟨g11, h⟩ := gd_some h
                  refine W_regG hT ftL_nil (by kernel_rfl) [(2, true), (6, false), (12, false), (14, true), (17, false)] [0, 1, 2, 3, 4, 5, 6, 7, 8, 9, 10, 11, 12, 13, 14, 15, 16, 17, 18, 19, 20, 21, 22, 24, 25, 27, 28, 29, 30, 31] [[0, 1, 2, 3, 4, 5, 6, 7, 8, 9, 10, 11, 12, 13, 14, 15, 16, 17, 18, 19, 20, 21, 22, 24, 25], [0, 1, 2, 3, 4, 5, 6, 7, 8, 9, 10, 11, 12, 13, 14, 15, 16, 17, 18, 19, 20, 21, 22, 23, 24, 25], [0, 1, 2, 3, 4, 5, 6, 7, 8, 9, 10, 11, 12, 13, 14, 15, 16, 17, 18, 19, 20, 21, 22, 23, 24, 25, 26, 27, 28, 29, 30, 31]] [⟨[(1, .c (.wh 0)), (2, .c (.pt 1 0)), (5, .c (.s (.b r13))), (6, .c (.wh 3)), (7, .c (.s (.er 31 .i64 r26.2))), (8, .c (.s (.b r30))), (31, .c (.s (.b r30))), (32, .c (.s (.b (!r30)))), (33, .c (.s (.b true))), (34, .c (.s (.er 31 .i64 r26.2))), (35, .c (.s (.er 31 .i64 (some 1)))), (36, .c (.s (.b (!(r26.2 == (some 1)))))), (37, .c (.s (.b false))), (38, .c (.wh 3)), (39, .c (.s (.k .i64 ((r26.1.length : Nat) : Int)))), (40, .c (.s (.b (((r26.1.length : Nat) : Int) != 0)))), (41, .c (.s (.b (((r26.1.length : Nat) : Int) != 0)))), (42, .c (.s (.b (((r26.1.length : Nat) : Int) != 0)))), (43, .c (.s (.b false))), (44, .c (.s (.b r30))), (45, .c (.s (.b true))), (46, .c (.s (.er 31 .i64 r26.2))), (47, .c (.s (.b (!((r26.2).isNone))))), (48, .c (.s (.b false))), (49, .c (.wh 3)), (50, .c (.s (.str r26.1))), (51, .c (.pt 1 1)), (52, .c (.s (.k .i64 l0_1))), (53, .c (.s (.u8 (UInt8.ofInt l0_1)))), (55, .c (.pt 1 0)), (56, .c (.wh 2))], [], [⟨(.ro false), 5, 1, l1.length, .b l1⟩, ⟨.blk, 45, 1, 2, .c [.wh 2, .s (.k .i64 l0_1)]⟩, ⟨(.ro false), 5, 1, l0_0.length, .b l0_0⟩, ⟨.row, 5, 1, r26.1.length, .b r26.1⟩]⟩, ⟨[(1, .c (.wh 0)), (2, .c (.pt 1 0)), (5, .c (.s (.b r13))), (6, .c (.wh 3)), (43, .c (.s (.b false))), (45, .c (.s (.b true))), (48, .c (.s (.b false))), (49, .c (.wh 3)), (50, .c (.s (.str r26.1))), (54, .c (.wh 4)), (55, .c (.pt 1 0)), (56, .c (.wh 2))], [], [⟨(.ro false), 5, 1, l1.length, .b l1⟩, ⟨.blk, 45, 1, 2, .c [.wh 2, .s (.k .i64 l0_1)]⟩, ⟨(.ro false), 5, 1, l0_0.length, .b l0_0⟩, ⟨.row, 5, 1, r26.1.length, .b r26.1⟩, ⟨.row, 5, 1, 1, .b [(UInt8.ofInt l0_1)]⟩]⟩, ⟨[(1, .c (.wh 0)), (5, .c (.s (.b r13))), (6, .c (.wh 1)), (43, .c (.s (.b false))), (45, .c (.s (.b true))), (48, .c (.s (.b false))), (49, .c (.wh 1)), (50, .c (.s (.str r26.1))), (57, .c (.wh 2)), (58, .c (.s (.str ([(UInt8.ofInt l0_1)] ++ l0_0)))), (59, .c (.s (.b (r26.1 != ([(UInt8.ofInt l0_1)] ++ l0_0))))), (60, .c (.s (.b (r26.1 != ([(UInt8.ofInt l0_1)] ++ l0_0))))), (61, .c (.s (.b (r26.1 != ([(UInt8.ofInt l0_1)] ++ l0_0))))), (62, .c (.s (.b (r26.1 != ([(UInt8.ofInt l0_1)] ++ l0_0)))))], [], [⟨(.ro false), 5, 1, l1.length, .b l1⟩, ⟨.row, 5, 1, r26.1.length, .b r26.1⟩, ⟨.row, 5, 1, ([(UInt8.ofInt l0_1)] ++ l0_0).length, .b ([(UInt8.ofInt l0_1)] ++ l0_0)⟩]⟩] [0, 1, 2, 3, 4, 5, 6, 7, 8, 9, 10, 11, 12, 13, 14, 15, 16, 17, 18, 19, 20, 21, 22, 24, 25] [⟨0, 23, 1, [], [], [1, 2, 5, 6, 43, 45, 48, 49, 50, 54, 55, 56], [0, 1, 2, 3, 4]⟩, ⟨1, 26, 2, [27, 28, 29, 30, 31], [], [1, 5, 6, 43, 45, 48, 49, 50, 57, 58, 59, 60, 61, 62], [0, 3, 5]⟩] [(0, 0), (0, 1), (0, 2), (0, 3), (0, 4), (0, 5), (0, 6), (0, 7), (0, 8), (0, 9), (0, 10), (0, 11), (0, 12), (0, 13), (0, 14), (0, 15), (0, 16), (0, 17), (0, 18), (0, 19), (0, 20), (0, 21), (0, 22), (0, 24), (0, 25), (1, 18), (1, 19), (1, 24), (1, 25), (2, 18), (2, 19), (2, 27), (2, 28), (2, 29), (2, 30), (2, 31)] 2 [1, 2, 5, 6, 7, 8, 31, 32, 33, 34, 35, 36, 37, 38, 39, 40, 41, 42, 43, 44, 45, 46, 47, 48, 49, 50, 51, 52, 53, 55, 56] [0, 1, 2, 3] [] [1, 5, 62] [0] (s' := ⟨[(1, .c (.wh 0)), (5, .c (.s (.b r13))), (62, .c (.s (.b (r26.1 != ([(UInt8.ofInt l0_1)] ++ l0_0)))))], [], [⟨(.ro false), 5, 1, l1.length, .b l1⟩]⟩) (by kernel_rfl) ⟨_, (by kernel_rfl), (allP_cons.2 ⟨g5, (allP_cons.2 ⟨g6, (allP_cons.2 ⟨g7, (allP_cons.2 ⟨g8, (allP_cons.2 ⟨g9, (allP_cons.2 ⟨g10, allP_nil⟩)⟩)⟩)⟩)⟩)⟩)⟩ (AllE.cons ⟨_, (by kernel_rfl), allP_nil⟩ (AllE.cons ⟨_, (by kernel_rfl), (allP_cons.2 ⟨g11, allP_nil⟩)⟩ AllE.nil)) (AllR.cons ⟨_, (by kernel_rfl), allP_nil⟩ (AllR.cons ⟨_, (by kernel_rfl), allP_nil⟩ (AllR.cons ⟨_, (by kernel_rfl), (allP_cons.2 ⟨g5, allP_nil⟩)⟩ (AllR.cons ⟨_, (by kernel_rfl), allP_nil⟩ (AllR.cons ⟨_, (by kernel_rfl), allP_nil⟩ (AllR.cons ⟨_, (by kernel_rfl), (allP_cons.2 ⟨g6, allP_nil⟩)⟩ (AllR.cons ⟨_, (by kernel_rfl), (allP_cons.2 ⟨g7, allP_nil⟩)⟩ (AllR.cons ⟨_, (by kernel_rfl), allP_nil⟩ (AllR.cons ⟨_, (by kernel_rfl), allP_nil⟩ (AllR.cons ⟨_, (by kernel_rfl), allP_nil⟩ (AllR.cons ⟨_, (by kernel_rfl), allP_nil⟩ (AllR.cons ⟨_, (by kernel_rfl), allP_nil⟩ (AllR.cons ⟨_, (by kernel_rfl), (allP_cons.2 ⟨g8, allP_nil⟩)⟩ (AllR.cons ⟨_, (by kernel_rfl), allP_nil⟩ (AllR.cons ⟨_, (by kernel_rfl), (allP_cons.2 ⟨g9, allP_nil⟩)⟩ (AllR.cons ⟨_, (by kernel_rfl), allP_nil⟩ (AllR.cons ⟨_, (by kernel_rfl), allP_nil⟩ (AllR.cons ⟨_, (by kernel_rfl), (allP_cons.2 ⟨g10, allP_nil⟩)⟩ (AllR.cons ⟨_, (by kernel_rfl), allP_nil⟩ (AllR.cons ⟨_, (by kernel_rfl), allP_nil⟩ (AllR.cons ⟨_, (by kernel_rfl), allP_nil⟩ (AllR.cons ⟨_, (by kernel_rfl), allP_nil⟩ (AllR.cons ⟨_, (by kernel_rfl), allP_nil⟩ (AllR.cons ⟨_, (by kernel_rfl), allP_nil⟩ (AllR.cons ⟨_, (by kernel_rfl), allP_nil⟩ (AllR.cons ⟨_, (by kernel_rfl), allP_nil⟩ (AllR.cons ⟨_, (by kernel_rfl), allP_nil⟩ (AllR.cons ⟨_, (by kernel_rfl), allP_nil⟩ (AllR.cons ⟨_, (by kernel_rfl), allP_nil⟩ (AllR.cons ⟨_, (by kernel_rfl), allP_nil⟩ (AllR.cons ⟨_, (by kernel_rfl), allP_nil⟩ (AllR.cons ⟨_, (by kernel_rfl), allP_nil⟩ (AllR.cons ⟨_, (by kernel_rfl), allP_nil⟩ (AllR.cons ⟨_, (by kernel_rfl), allP_nil⟩ (AllR.cons ⟨_, (by kernel_rfl), allP_nil⟩ (AllR.cons ⟨_, (by kernel_rfl), allP_nil⟩ AllR.nil)))))))))))))))))))))))))))))))))))) (by kernel_rfl) ?_
                  refine W_cond (b := (r26.1 != ([(UInt8.ofInt l0_1)] ++ l0_0))) (by kernel_rfl) (fun g31 => ?_) (fun g31 => ?_)
                  · replace h := bif_t h g31
                    refine W_seq ?_
                    refine W_reg hT ftL_nil [] [] [4] [] (s' := ⟨[(4, .c (.s (.b false)))], [], []⟩) (by kernel_rfl) allP_nil ?_
                    refine W_co [] [4] [] (s' := (lBits_R false)) (by kernel_rfl) (W_ret ?_)
                    exact ⟨.inl rfl, by cases h; rfl⟩
                  · replace h := bif_f h g31
                    refine W_co [] [1, 5] [0] (s' := ⟨[(1, .c (.wh 0)), (5, .c (.s (.b r13)))], [], [⟨(.ro false), 5, 1, l1.length, .b l1⟩]⟩) (by kernel_rfl) (W_skip ?_)
                    refine W_seq ?_
                    obtain ⟨r65, g12, h⟩ := bind_some' h
                    refine W_reg hT (ftL_cons (k := 1) (f := 26) (F := (pReadBits_ct n r65)) (pReadBits_ok n r65) (fun _ _ => True.intro) ftL_nil) [] [] [1, 5, 9, 10] [0, 2, 1] (s' := ⟨[(1, .c (.wh 0)), (5, .c (.s (.b r13))), (9, .c (.pt 1 0)), (10, .c (.s (.er 31 .i64 r65.2.2)))], [], [⟨(.ro false), 5, 1, l1.length, .b l1⟩, ⟨.blk, 45, 1, 2, .c [.wh 2, .s (.k .i64 r65.2.1)]⟩, ⟨.row, 5, 1, r65.1.length, .b r65.1⟩]⟩) (by kernel_rfl) (allP_cons.2 ⟨g12, allP_nil⟩) ?_
                    refine W_seq ?_
                    refine W_seq ?_
                    refine W_reg hT ftL_nil [] [] [1, 5, 9, 10, 70] [0, 1, 2] (s' := ⟨[(1, .c (.wh 0)), (5, .c (.s (.b r13))), (9, .c (.pt 1 0)), (10, .c (.s (.er 31 .i64 r65.2.2))), (70, .c (.s (.b (((l1.length : Nat) : Int) == 0))))], [], [⟨(.ro false), 5, 1, l1.length, .b l1⟩, ⟨.blk, 45, 1, 2, .c [.wh 2, .s (.k .i64 r65.2.1)]⟩, ⟨.row, 5, 1, r65.1.length, .b r65.1⟩]⟩) (by kernel_rfl) allP_nil ?_
                    refine W_cond (b := (((l1.length : Nat) : Int) == 0)) (by kernel_rfl) (fun g30 => ?_) (fun g30 => ?_)
                    · replace h := bif_t h g30
                      refine W_seq ?_
                      rcases Bool.eq_false_or_eq_true r13 with g13 | g13
                      · replace h := bif_t h g13
                        obtain ⟨g14, h⟩ := gd_some h
                        rcases Bool.eq_false_or_eq_true (r65.2.2 == (some 2)) with g15 | g15
                        · replace h := bif_t h g15
                          rcases Bool.eq_false_or_eq_true (((r65.1.length : Nat) : Int) == 0) with g16 | g16
                          · replace h := bif_t h g16
                            refine W_reg hT ftL_nil [(1, true), (6, true), (12, true)] [] [4] [] (s' := ⟨[(4, .c (.s (.b (r65.2.1 == 0))))], [], []⟩) (by kernel_rfl) (allP_cons.2 ⟨g13, (allP_cons.2 ⟨g14, (allP_cons.2 ⟨g15, (allP_cons.2 ⟨g16, allP_nil⟩)⟩)⟩)⟩) ?_
                            refine W_co [] [4] [] (s' := (lBits_R (r65.2.1 == 0))) (by kernel_rfl) (W_ret ?_)
                            exact ⟨.inl rfl, by cases h; rfl⟩
                          · replace h := bif_f h g16
                            refine W_reg hT ftL_nil [(1, true), (6, true), (12, false)] [] [4] [] (s' := ⟨[(4, .c (.s (.b false)))], [], []⟩) (by kernel_rfl) (allP_cons.2 ⟨g13, (allP_cons.2 ⟨g14, (allP_cons.2 ⟨g15, (allP_cons.2 ⟨g16, allP_nil⟩)⟩)⟩)⟩) ?_
                            refine W_co [] [4] [] (s' := (lBits_R false)) (by kernel_rfl) (W_ret ?_)
                            exact ⟨.inl rfl, by cases h; rfl⟩
                        · replace h := bif_f h g15
                          refine W_reg hT ftL_nil [(1, true), (6, false)] [] [4] [] (s' := ⟨[(4, .c (.s (.b false)))], [], []⟩) (by kernel_rfl) (allP_cons.2 ⟨g13, (allP_cons.2 ⟨g14, (allP_cons.2 ⟨g15, allP_nil⟩)⟩)⟩) ?_
                          refine W_co [] [4] [] (s' := (lBits_R false)) (by kernel_rfl) (W_ret ?_)
                          exact ⟨.inl rfl, by cases h; rfl⟩
                      · replace h := bif_f h g13
                        refine W_reg hT ftL_nil [(1, false)] [] [4] [] (s' := ⟨[(4, .c (.s (.b false)))], [], []⟩) (by kernel_rfl) (allP_cons.2 ⟨g13, allP_nil⟩) ?_
                        refine W_co [] [4] [] (s' := (lBits_R false)) (by kernel_rfl) (W_ret ?_)
                        exact ⟨.inl rfl, by cases h; rfl⟩
                    · replace h := bif_f h g30
                      refine W_co [] [1, 5, 9, 10] [0, 1, 2] (s' := ⟨[(1, .c (.wh 0)), (5, .c (.s (.b r13))), (9, .c (.pt 1 0)), (10, .c (.s (.er 31 .i64 r65.2.2)))], [], [⟨(.ro false), 5, 1, l1.length, .b l1⟩, ⟨.blk, 45, 1, 2, .c [.wh 2, .s (.k .i64 r65.2.1)]⟩, ⟨.row, 5, 1, r65.1.length, .b r65.1⟩]⟩) (by kernel_rfl) (W_skip ?_)
                      refine W_seq ?_
                      obtain ⟨g17, h⟩ := gd_some h
                      obtain ⟨g18, h⟩ := gd_some h
                      obtain ⟨g19, h⟩ := gd_some h
                      obtain ⟨g20, h⟩ := gd_some h
                      refine W_regD hT ftL_nil (by kernel_rfl) 8 [] [(5, false), (9, false), (10, false), (11, false), (94, false)] [] [5, 9, 10, 11] [1, 2, 3, 0] (s' := ⟨[(5, .c (.s (.b r13))), (9, .c (.pt 0 0)), (10, .c (.s (.er 31 .i64 r65.2.2))), (11, .c (.pt 2 0))], [], [⟨.blk, 45, 1, 2, .c [.wh 1, .s (.k .i64 r65.2.1)]⟩, ⟨.row, 5, 1, r65.1.length, .b r65.1⟩, ⟨.blk, 45, 1, 2, .c [.sl 3 1 (l1.length - 1), .s (.k .i64 (((l1.getD 0 0).toNat : Nat) : Int))]⟩, ⟨(.ro false), 5, 1, l1.length, .b l1⟩]⟩) (by kernel_rfl) (by kernel_rfl) (allP_cons.2 ⟨g17, (allP_cons.2 ⟨g18, (allP_cons.2 ⟨g19, (allP_cons.2 ⟨g20, allP_nil⟩)⟩)⟩)⟩) ?_
                      refine W_seq ?_
                      obtain ⟨r96, g21, h⟩ := bind_some' h
                      refine W_reg hT (ftL_cons (k := 1) (f := 25) (F := (rBits_ct n r96)) (rBits_ok n r96) (fun _ _ => True.intro) ftL_nil) [] [] [5, 9, 10, 11, 12] [0, 1, 2, 3] (s' := ⟨[(5, .c (.s (.b r13))), (9, .c (.pt 0 0)), (10, .c (.s (.er 31 .i64 r65.2.2))), (11, .c (.pt 2 0)), (12, .c (.s (.b r96)))], [], [⟨.blk, 45, 1, 2, .c [.wh 1, .s (.k .i64 r65.2.1)]⟩, ⟨.row, 5, 1, r65.1.length, .b r65.1⟩, ⟨.blk, 45, 1, 2, .c [.sl 3 1 (l1.length - 1), .s (.k .i64 (((l1.getD 0 0).toNat : Nat) : Int))]⟩, ⟨(.ro false), 5, 1, l1.length, .b l1⟩]⟩) (by kernel_rfl) (allP_cons.2 ⟨g21, allP_nil⟩) ?_
                      refine W_seq ?_
                      refine W_seq ?_
                      refine W_reg hT ftL_nil [] [] [5, 9, 10, 11, 98] [0, 1, 2, 3] (s' := ⟨[(5, .c (.s (.b r13))), (9, .c (.pt 0 0)), (10, .c (.s (.er 31 .i64 r65.2.2))), (11, .c (.pt 2 0)), (98, .c (.s (.b (!r96))))], [], [⟨.blk, 45, 1, 2, .c [.wh 1, .s (.k .i64 r65.2.1)]⟩, ⟨.row, 5, 1, r65.1.length, .b r65.1⟩, ⟨.blk, 45, 1, 2, .c [.sl 3 1 (l1.length - 1), .s (.k .i64 (((l1.getD 0 0).toNat : Nat) : Int))]⟩, ⟨(.ro false), 5, 1, l1.length, .b l1⟩]⟩) (by kernel_rfl) allP_nil ?_
                      refine W_cond (b := (!r96)) (by kernel_rfl) (fun g29 => ?_) (fun g29 => ?_)
                      · replace h := bif_t h g29
                        refine W_seq ?_
                        rcases Bool.eq_false_or_eq_true r13 with g22 | g22
                        · replace h := bif_t h g22
                          obtain ⟨g23, h⟩ := gd_some h
                          rcases Bool.eq_false_or_eq_true (r65.2.2 == (some 2)) with g24 | g24
                          · replace h := bif_t h g24
                            rcases Bool.eq_false_or_eq_true (((r65.1.length : Nat) : Int) == 0) with g25 | g25
                            · replace h := bif_t h g25
                              refine W_reg hT ftL_nil [(1, true), (6, true), (12, true)] [] [4] [] (s' := ⟨[(4, .c (.s (.b (r65.2.1 == 0))))], [], []⟩) (by kernel_rfl) (allP_cons.2 ⟨g22, (allP_cons.2 ⟨g23, (allP_cons.2 ⟨g24, (allP_cons.2 ⟨g25, allP_nil⟩)⟩)⟩)⟩) ?_
                              refine W_co [] [4] [] (s' := (lBits_R (r65.2.1 == 0))) (by kernel_rfl) (W_ret ?_)
                              exact ⟨.inl rfl, by cases h; rfl⟩
                            · replace h := bif_f h g25
                              refine W_reg hT ftL_nil [(1, true), (6, true), (12, false)] [] [4] [] (s' := ⟨[(4, .c (.s (.b false)))], [], []⟩) (by kernel_rfl) (allP_cons.2 ⟨g22, (allP_cons.2 ⟨g23, (allP_cons.2 ⟨g24, (allP_cons.2 ⟨g25, allP_nil⟩)⟩)⟩)⟩) ?_
                              refine W_co [] [4] [] (s' := (lBits_R false)) (by kernel_rfl) (W_ret ?_)
                              exact ⟨.inl rfl, by cases h; rfl⟩
                          · replace h := bif_f h g24
                            refine W_reg hT ftL_nil [(1, true), (6, false)] [] [4] [] (s' := ⟨[(4, .c (.s (.b false)))], [], []⟩) (by kernel_rfl) (allP_cons.2 ⟨g22, (allP_cons.2 ⟨g23, (allP_cons.2 ⟨g24, allP_nil⟩)⟩)⟩) ?_
                            refine W_co [] [4] [] (s' := (lBits_R false)) (by kernel_rfl) (W_ret ?_)
                            exact ⟨.inl rfl, by cases h; rfl⟩
                        · replace h := bif_f h g22
                          refine W_reg hT ftL_nil [(1, false)] [] [4] [] (s' := ⟨[(4, .c (.s (.b false)))], [], []⟩) (by kernel_rfl) (allP_cons.2 ⟨g22, allP_nil⟩) ?_
                          refine W_co [] [4] [] (s' := (lBits_R false)) (by kernel_rfl) (W_ret ?_)
                          exact ⟨.inl rfl, by cases h; rfl⟩
                      · replace h := bif_f h g29
                        refine W_co [] [5, 9, 10, 11] [0, 1, 2, 3] (s' := ⟨[(5, .c (.s (.b r13))), (9, .c (.pt 0 0)), (10, .c (.s (.er 31 .i64 r65.2.2))), (11, .c (.pt 2 0))], [], [⟨.blk, 45, 1, 2, .c [.wh 1, .s (.k .i64 r65.2.1)]⟩, ⟨.row, 5, 1, r65.1.length, .b r65.1⟩, ⟨.blk, 45, 1, 2, .c [.sl 3 1 (l1.length - 1), .s (.k .i64 (((l1.getD 0 0).toNat : Nat) : Int))]⟩, ⟨(.ro false), 5, 1, l1.length, .b l1⟩]⟩) (by kernel_rfl) (W_skip ?_)
                        refine W_seq ?_
                        rcases Bool.eq_false_or_eq_true r13 with g26 | g26
                        · replace h := bif_t h g26
                          rcases Bool.eq_false_or_eq_true ((r65.2.2).isNone) with g27 | g27
                          · replace h := bif_t h g27
                            rcases Bool.eq_false_or_eq_true (r65.1 == ((l1.drop 1).take (l1.length - 1))) with g28 | g28
                            · replace h := bif_t h g28
                              refine W_reg hT ftL_nil [(1, true), (5, true), (14, true)] [] [4] [] (s' := ⟨[(4, .c (.s (.b (r65.2.1 == (((l1.getD 0 0).toNat : Nat) : Int)))))], [], []⟩) (by kernel_rfl) (allP_cons.2 ⟨g26, (allP_cons.2 ⟨g27, (allP_cons.2 ⟨g28, allP_nil⟩)⟩)⟩) ?_
                              refine W_co [] [4] [] (s' := (lBits_R (r65.2.1 == (((l1.getD 0 0).toNat : Nat) : Int)))) (by kernel_rfl) (W_ret ?_)
                              exact ⟨.inl rfl, by cases h; rfl⟩
                            · replace h := bif_f h g28
                              refine W_reg hT ftL_nil [(1, true), (5, true), (14, false)] [] [4] [] (s' := ⟨[(4, .c (.s (.b false)))], [], []⟩) (by kernel_rfl) (allP_cons.2 ⟨g26, (allP_cons.2 ⟨g27, (allP_cons.2 ⟨g28, allP_nil⟩)⟩)⟩) ?_
                              refine W_co [] [4] [] (s' := (lBits_R false)) (by kernel_rfl) (W_ret ?_)
                              exact ⟨.inl rfl, by cases h; rfl⟩
                          · replace h := bif_f h g27
                            refine W_reg hT ftL_nil [(1, true), (5, false)] [] [4] [] (s' := ⟨[(4, .c (.s (.b false)))], [], []⟩) (by kernel_rfl) (allP_cons.2 ⟨g26, (allP_cons.2 ⟨g27, allP_nil⟩)⟩) ?_
                            refine W_co [] [4] [] (s' := (lBits_R false)) (by kernel_rfl) (W_ret ?_)
                            exact ⟨.inl rfl, by cases h; rfl⟩
                        · replace h := bif_f h g26
                          refine W_reg hT ftL_nil [(1, false)] [] [4] [] (s' := ⟨[(4, .c (.s (.b false)))], [], []⟩) (by kernel_rfl) (allP_cons.2 ⟨g26, allP_nil⟩) ?_
                          refine W_co [] [4] [] (s' := (lBits_R false)) (by kernel_rfl) (W_ret ?_)
                          exact ⟨.inl rfl, by cases h; rfl⟩
              · replace h := bif_f h g9
                refine W_regG hT ftL_nil (by kernel_rfl) [(2, true), (6, false), (12, false), (14, false)] [0, 1, 2, 3, 4, 5, 6, 7, 8, 9, 10, 11, 12, 13, 14, 15, 16, 17, 18, 19, 20, 21, 22, 23, 24, 25, 26, 27, 28, 29, 30, 31] [[0, 1, 2, 3, 4, 5, 6, 7, 8, 9, 10, 11, 12, 13, 14, 15, 16, 17, 18, 19, 20, 21, 22, 23, 24, 25, 26, 27, 28, 29, 30, 31]] [⟨[(1, .c (.wh 0)), (2, .c (.pt 1 0)), (5, .c (.s (.b r13))), (6, .c (.wh 3)), (7, .c (.s (.er 31 .i64 r26.2))), (8, .c (.s (.b r30))), (31, .c (.s (.b r30))), (32, .c (.s (.b (!r30)))), (33, .c (.s (.b true))), (34, .c (.s (.er 31 .i64 r26.2))), (35, .c (.s (.er 31 .i64 (some 1)))), (36, .c (.s (.b (!(r26.2 == (some 1)))))), (37, .c (.s (.b false))), (38, .c (.wh 3)), (39, .c (.s (.k .i64 ((r26.1.length : Nat) : Int)))), (40, .c (.s (.b (((r26.1.length : Nat) : Int) != 0)))), (41, .c (.s (.b (((r26.1.length : Nat) : Int) != 0)))), (42, .c (.s (.b (((r26.1.length : Nat) : Int) != 0)))), (43, .c (.s (.b false))), (44, .c (.s (.b r30))), (45, .c (.s (.b false))), (46, .t []), (47, .t []), (48, .t []), (49, .t []), (50, .t []), (51, .t []), (52, .t []), (53, .t []), (54, .t []), (55, .t []), (56, .t []), (57, .t []), (58, .t []), (59, .t []), (60, .t []), (61, .c (.s (.b false))), (62, .c (.s (.b false)))], [], [⟨(.ro false), 5, 1, l1.length, .b l1⟩, ⟨.blk, 45, 1, 2, .c [.wh 2, .s (.k .i64 l0_1)]⟩, ⟨(.ro false), 5, 1, l0_0.length, .b l0_0⟩, ⟨.row, 5, 1, r26.1.length, .b r26.1⟩]⟩] [0, 1, 2, 3, 4, 5, 6, 7, 8, 9, 10, 11, 12, 13, 14, 15, 16, 17, 18, 19, 20, 21, 22, 23, 24, 25, 26, 27, 28, 29, 30, 31] [] [(0, 0), (0, 1), (0, 2), (0, 3), (0, 4), (0, 5), (0, 6), (0, 7), (0, 8), (0, 9), (0, 10), (0, 11), (0, 12), (0, 13), (0, 14), (0, 15), (0, 16), (0, 17), (0, 18), (0, 19), (0, 20), (0, 21), (0, 22), (0, 23), (0, 24), (0, 25), (0, 26), (0, 27), (0, 28), (0, 29), (0, 30), (0, 31)] 0 [1, 2, 5, 6, 7, 8, 31, 32, 33, 34, 35, 36, 37, 38, 39, 40, 41, 42, 43, 44, 45, 46, 47, 48, 49, 50, 51, 52, 53, 54, 55, 56, 57, 58, 59, 60, 61, 62] [0, 1, 2, 3] [] [1, 5, 62] [0] (s' := ⟨[(1, .c (.wh 0)), (5, .c (.s (.b r13))), (62, .c (.s (.b false)))], [], [⟨(.ro false), 5, 1, l1.length, .b l1⟩]⟩) (by kernel_rfl) ⟨_, (by kernel_rfl), (allP_cons.2 ⟨g5, (allP_cons.2 ⟨g6, (allP_cons.2 ⟨g7, (allP_cons.2 ⟨g8, (allP_cons.2 ⟨g9, allP_nil⟩)⟩)⟩)⟩)⟩)⟩ AllE.nil (AllR.cons ⟨_, (by kernel_rfl), allP_nil⟩ (AllR.cons ⟨_, (by kernel_rfl), allP_nil⟩ (AllR.cons ⟨_, (by kernel_rfl), (allP_cons.2 ⟨g5, allP_nil⟩)⟩ (AllR.cons ⟨_, (by kernel_rfl), allP_nil⟩ (AllR.cons ⟨_, (by kernel_rfl), allP_nil⟩ (AllR.cons ⟨_, (by kernel_rfl), (allP_cons.2 ⟨g6, allP_nil⟩)⟩ (AllR.cons ⟨_, (by kernel_rfl), (allP_cons.2 ⟨g7, allP_nil⟩)⟩ (AllR.cons ⟨_, (by kernel_rfl), allP_nil⟩ (AllR.cons ⟨_, (by kernel_rfl), allP_nil⟩ (AllR.cons ⟨_, (by kernel_rfl), allP_nil⟩ (AllR.cons ⟨_, (by kernel_rfl), allP_nil⟩ (AllR.cons ⟨_, (by kernel_rfl), allP_nil⟩ (AllR.cons ⟨_, (by kernel_rfl), (allP_cons.2 ⟨g8, allP_nil⟩)⟩ (AllR.cons ⟨_, (by kernel_rfl), allP_nil⟩ (AllR.cons ⟨_, (by kernel_rfl), (allP_cons.2 ⟨g9, allP_nil⟩)⟩ (AllR.cons ⟨_, (by kernel_rfl), allP_nil⟩ (AllR.cons ⟨_, (by kernel_rfl), allP_nil⟩ (AllR.cons ⟨_, (by kernel_rfl), allP_nil⟩ (AllR.cons ⟨_, (by kernel_rfl), allP_nil⟩ (AllR.cons ⟨_, (by kernel_rfl), allP_nil⟩ (AllR.cons ⟨_, (by kernel_rfl), allP_nil⟩ (AllR.cons ⟨_, (by kernel_rfl), allP_nil⟩ (AllR.cons ⟨_, (by kernel_rfl), allP_nil⟩ (AllR.cons ⟨_, (by kernel_rfl), allP_nil⟩ (AllR.cons ⟨_, (by kernel_rfl), allP_nil⟩ (AllR.cons ⟨_, (by kernel_rfl), allP_nil⟩ (AllR.cons ⟨_, (by kernel_rfl), allP_nil⟩ (AllR.cons ⟨_, (by kernel_rfl), allP_nil⟩ (AllR.cons ⟨_, (by kernel_rfl), allP_nil⟩ (AllR.cons ⟨_, (by kernel_rfl), allP_nil⟩ (AllR.cons ⟨_, (by kernel_rfl), allP_nil⟩ (AllR.cons ⟨_, (by kernel_rfl), allP_nil⟩ AllR.nil)))))))))))))))))))))))))))))))) (by kernel_rfl) ?_
                refine W_cond (b := false) (by kernel_rfl) (fun hb => by cases hb) (fun _ => ?_)
                refine W_co [] [1, 5] [0] (s' := ⟨[(1, .c (.wh 0)), (5, .c (.s (.b r13)))], [], [⟨(.ro false), 5, 1, l1.length, .b l1⟩]⟩) (by kernel_rfl) (W_skip ?_)
                refine W_seq ?_
                obtain ⟨r65, g32, h⟩ := bind_some' h
                refine W_reg hT (ftL_cons (k := 1) (f := 26) (F := (pReadBits_ct n r65)) (pReadBits_ok n r65) (fun _ _ => True.intro) ftL_nil) [] [] [1, 5, 9, 10] [0, 2, 1] (s' := ⟨[(1, .c (.wh 0)), (5, .c (.s (.b r13))), (9, .c (.pt 1 0)), (10, .c (.s (.er 31 .i64 r65.2.2)))], [], [⟨(.ro false), 5, 1, l1.length, .b l1⟩, ⟨.blk, 45, 1, 2, .c [.wh 2, .s (.k .i64 r65.2.1)]⟩, ⟨.row, 5, 1, r65.1.length, .b r65.1⟩]⟩) (by kernel_rfl) (allP_cons.2 ⟨g32, allP_nil⟩) ?_
                refine W_seq ?_
                refine W_seq ?_
                refine W_reg hT ftL_nil [] [] [1, 5, 9, 10, 70] [0, 1, 2] (s' := ⟨[(1, .c (.wh 0)), (5, .c (.s (.b r13))), (9, .c (.pt 1 0)), (10, .c (.s (.er 31 .i64 r65.2.2))), (70, .c (.s (.b (((l1.length : Nat) : Int) == 0))))], [], [⟨(.ro false), 5, 1, l1.length, .b l1⟩, ⟨.blk, 45, 1, 2, .c [.wh 2, .s (.k .i64 r65.2.1)]⟩, ⟨.row, 5, 1, r65.1.length, .b r65.1⟩]⟩) (by kernel_rfl) allP_nil ?_
                refine W_cond (b := (((l1.length : Nat) : Int) == 0)) (by kernel_rfl) (fun g50 => ?_) (fun g50 => ?_)
                · replace h := bif_t h g50
                  refine W_seq ?_
                  rcases Bool.eq_false_or_eq_true r13 with g33 | g33
                  · replace h := bif_t h g33
                    obtain ⟨g34, h⟩ := gd_some h
                    rcases Bool.eq_false_or_eq_true (r65.2.2 == (some 2)) with g35 | g35
                    · replace h := bif_t h g35
                      rcases Bool.eq_false_or_eq_true (((r65.1.length : Nat) : Int) == 0) with g36 | g36
                      · replace h := bif_t h g36
                        refine W_reg hT ftL_nil [(1, true), (6, true), (12, true)] [] [4] [] (s' := ⟨[(4, .c (.s (.b (r65.2.1 == 0))))], [], []⟩) (by kernel_rfl) (allP_cons.2 ⟨g33, (allP_cons.2 ⟨g34, (allP_cons.2 ⟨g35, (allP_cons.2 ⟨g36, allP_nil⟩)⟩)⟩)⟩) ?_
                        refine W_co [] [4] [] (s' := (lBits_R (r65.2.1 == 0))) (by kernel_rfl) (W_ret ?_)
                        exact ⟨.inl rfl, by cases h; rfl⟩
                      · replace h := bif_f h g36
                        refine W_reg hT ftL_nil [(1, true), (6, true), (12, false)] [] [4] [] (s' := ⟨[(4, .c (.s (.b false)))], [], []⟩) (by kernel_rfl) (allP_cons.2 ⟨g33, (allP_cons.2 ⟨g34, (allP_cons.2 ⟨g35, (allP_cons.2 ⟨g36, allP_nil⟩)⟩)⟩)⟩) ?_
                        refine W_co [] [4] [] (s' := (lBits_R false)) (by kernel_rfl) (W_ret ?_)
                        exact ⟨.inl rfl, by cases h; rfl⟩
                    · replace h := bif_f h g35
                      refine W_reg hT ftL_nil [(1, true), (6, false)] [] [4] [] (s' := ⟨[(4, .c (.s (.b false)))], [], []⟩) (by kernel_rfl) (allP_cons.2 ⟨g33, (allP_cons.2 ⟨g34, (allP_cons.2 ⟨g35, allP_nil⟩)⟩)⟩) ?_
                      refine W_co [] [4] [] (s' := (lBits_R false)) (by kernel_rfl) (W_ret ?_)
                      exact ⟨.inl rfl, by cases h; rfl⟩
                  · replace h := bif_f h g33
                    refine W_reg hT ftL_nil [(1, false)] [] [4] [] (s' := ⟨[(4, .c (.s (.b false)))], [], []⟩) (by kernel_rfl) (allP_cons.2 ⟨g33, allP_nil⟩) ?_
                    refine W_co [] [4] [] (s' := (lBits_R false)) (by kernel_rfl) (W_ret ?_)
                    exact ⟨.inl rfl, by cases h; rfl⟩
                · replace h := bif_f h g50
                  refine W_co [] [1, 5, 9, 10] [0, 1, 2] (s' := ⟨[(1, .c (.wh 0)), (5, .c (.s (.b r13))), (9, .c (.pt 1 0)), (10, .c (.s (.er 31 .i64 r65.2.2)))], [], [⟨(.ro false), 5, 1, l1.length, .b l1⟩, ⟨.blk, 45, 1, 2, .c [.wh 2, .s (.k .i64 r65.2.1)]⟩, ⟨.row, 5, 1, r65.1.length, .b r65.1⟩]⟩) (by kernel_rfl) (W_skip ?_)
                  refine W_seq ?_
                  obtain ⟨g37, h⟩ := gd_some h
                  obtain ⟨g38, h⟩ := gd_some h
                  obtain ⟨g39, h⟩ := gd_some h
                  obtain ⟨g40, h⟩ := gd_some h
                  refine W_regD hT ftL_nil (by kernel_rfl) 8 [] [(5, false), (9, false), (10, false), (11, false), (94, false)] [] [5, 9, 10, 11] [1, 2, 3, 0] (s' := ⟨[(5, .c (.s (.b r13))), (9, .c (.pt 0 0)), (10, .c (.s (.er 31 .i64 r65.2.2))), (11, .c (.pt 2 0))], [], [⟨.blk, 45, 1, 2, .c [.wh 1, .s (.k .i64 r65.2.1)]⟩, ⟨.row, 5, 1, r65.1.length, .b r65.1⟩, ⟨.blk, 45, 1, 2, .c [.sl 3 1 (l1.length - 1), .s (.k .i64 (((l1.getD 0 0).toNat : Nat) : Int))]⟩, ⟨(.ro false), 5, 1, l1.length, .b l1⟩]⟩) (by kernel_rfl) (by kernel_rfl) (allP_cons.2 ⟨g37, (allP_cons.2 ⟨g38, (allP_cons.2 ⟨g39, (allP_cons.2 ⟨g40, allP_nil⟩)⟩)⟩)⟩) ?_
                  refine W_seq ?_
                  obtain ⟨r96, g41, h⟩ := bind_some' h
                  refine W_reg hT (ftL_cons (k := 1) (f := 25) (F := (rBits_ct n r96)) (rBits_ok n r96) (fun _ _ => True.intro) ftL_nil) [] [] [5, 9, 10, 11, 12] [0, 1, 2, 3] (s' := ⟨[(5, .c (.s (.b r13))), (9, .c (.pt 0 0)), (10, .c (.s (.er 31 .i64 r65.2.2))), (11, .c (.pt 2 0)), (12, .c (.s (.b r96)))], [], [⟨.blk, 45, 1, 2, .c [.wh 1, .s (.k .i64 r65.2.1)]⟩, ⟨.row, 5, 1, r65.1.length, .b r65.1⟩, ⟨.blk, 45, 1, 2, .c [.sl 3 1 (l1.length - 1), .s (.k .i64 (((l1.getD 0 0).toNat : Nat) : Int))]⟩, ⟨(.ro false), 5, 1, l1.length, .b l1⟩]⟩) (by kernel_rfl) (allP_cons.2 ⟨g41, allP_nil⟩) ?_
                  refine W_seq ?_
                  refine W_seq ?_
                  refine W_reg hT ftL_nil [] [] [5, 9, 10, 11, 98] [0, 1, 2, 3] (s' := ⟨[(5, .c (.s (.b r13))), (9, .c (.pt 0 0)), (10, .c (.s (.er 31 .i64 r65.2.2))), (11, .c (.pt 2 0)), (98, .c (.s (.b (!r96))))], [], [⟨.blk, 45, 1, 2, .c [.wh 1, .s (.k .i64 r65.2.1)]⟩, ⟨.row, 5, 1, r65.1.length, .b r65.1⟩, ⟨.blk, 45, 1, 2, .c [.sl 3 1 (l1.length - 1), .s (.k .i64 (((l1.getD 0 0).toNat : Nat) : Int))]⟩, ⟨(.ro false), 5, 1, l1.length, .b l1⟩]⟩) (by kernel_rfl) allP_nil ?_
                  refine W_cond (b := (!r96)) (by kernel_rfl) (fun g49 => ?_) (fun g49 => ?_)
                  · replace h := bif_t h g49
                    refine W_seq ?_
                    rcases Bool.eq_false_or_eq_true r13 with g42 | g42
                    · replace h := bif_t h g42
                      obtain ⟨g43, h⟩ := gd_some h
                      rcases Bool.eq_false_or_eq_true (r65.2.2 == (some 2)) with g44 | g44
                      · replace h := bif_t h g44
                        rcases Bool.eq_false_or_eq_true (((r65.1.length : Nat) : Int) == 0) with g45 | g45
                        · replace h := bif_t h g45
                          refine W_reg hT ftL_nil [(1, true), (6, true), (12, true)] [] [4] [] (s' := ⟨[(4, .c (.s (.b (r65.2.1 == 0))))], [], []⟩) (by kernel_rfl) (allP_cons.2 ⟨g42, (allP_cons.2 ⟨g43, (allP_cons.2 ⟨g44, (allP_cons.2 ⟨g45, allP_nil⟩)⟩)⟩)⟩) ?_
                          refine W_co [] [4] [] (s' := (lBits_R (r65.2.1 == 0))) (by kernel_rfl) (W_ret ?_)
                          exact ⟨.inl rfl, by cases h; rfl⟩
                        · replace h := bif_f h g45
                          refine W_reg hT ftL_nil [(1, true), (6, true), (12, false)] [] [4] [] (s' := ⟨[(4, .c (.s (.b false)))], [], []⟩) (by kernel_rfl) (allP_cons.2 ⟨g42, (allP_cons.2 ⟨g43, (allP_cons.2 ⟨g44, (allP_cons.2 ⟨g45, allP_nil⟩)⟩)⟩)⟩) ?_
                          refine W_co [] [4] [] (s' := (lBits_R false)) (by kernel_rfl) (W_ret ?_)
                          exact ⟨.inl rfl, by cases h; rfl⟩
                      · replace h := bif_f h g44
                        refine W_reg hT ftL_nil [(1, true), (6, false)] [] [4] [] (s' := ⟨[(4, .c (.s (.b false)))], [], []⟩) (by kernel_rfl) (allP_cons.2 ⟨g42, (allP_cons.2 ⟨g43, (allP_cons.2 ⟨g44, allP_nil⟩)⟩)⟩) ?_
                        refine W_co [] [4] [] (s' := (lBits_R false)) (by kernel_rfl) (W_ret ?_)
                        exact ⟨.inl rfl, by cases h; rfl⟩
                    · replace h := bif_f h g42
                      refine W_reg hT ftL_nil [(1, false)] [] [4] [] (s' := ⟨[(4, .c (.s (.b false)))], [], []⟩) (by kernel_rfl) (allP_cons.2 ⟨g42, allP_nil⟩) ?_
                      refine W_co [] [4] [] (s' := (lBits_R false)) (by kernel_rfl) (W_ret ?_)
                      exact ⟨.inl rfl, by cases h; rfl⟩
                  · replace h := bif_f h g49
                    refine W_co [] [5, 9, 10, 11] [0, 1, 2, 3] (s' := ⟨[(5, .c (.s (.b r13))), (9, .c (.pt 0 0)), (10, .c (.s (.er 31 .i64 r65.2.2))), (11, .c (.pt 2 0))], [], [⟨.blk, 45, 1, 2, .c [.wh 1, .s (.k .i64 r65.2.1)]⟩, ⟨.row, 5, 1, r65.1.length, .b r65.1⟩, ⟨.blk, 45, 1, 2, .c [.sl 3 1 (l1.length - 1), .s (.k .i64 (((l1.getD 0 0).toNat : Nat) : Int))]⟩, ⟨(.ro false), 5, 1, l1.length, .b l1⟩]⟩) (by kernel_rfl) (W_skip ?_)
                    refine W_seq ?_
                    rcases Bool.eq_false_or_eq_true r13 with g46 | g46
                    · replace h := bif_t h g46
                      rcases Bool.eq_false_or_eq_true ((r65.2.2).isNone) with g47 | g47
                      · replace h := bif_t h g47
                        rcases Bool.eq_false_or_eq_true (r65.1 == ((l1.drop 1).take (l1.length - 1))) with g48 | g48
                        · replace h := bif_t h g48
                          refine W_reg hT ftL_nil [(1, true), (5, true), (14, true)] [] [4] [] (s' := ⟨[(4, .c (.s (.b (r65.2.1 == (((l1.getD 0 0).toNat : Nat) : Int)))))], [], []⟩) (by kernel_rfl) (allP_cons.2 ⟨g46, (allP_cons.2 ⟨g47, (allP_cons.2 ⟨g48, allP_nil⟩)⟩)⟩) ?_
                          refine W_co [] [4] [] (s' := (lBits_R (r65.2.1 == (((l1.getD 0 0).toNat : Nat) : Int)))) (by kernel_rfl) (W_ret ?_)
                          exact ⟨.inl rfl, by cases h; rfl⟩
                        · replace h := bif_f h g48
                          refine W_reg hT ftL_nil [(1, true), (5, true), (14, false)] [] [4] [] (s' := ⟨[(4, .c (.s (.b false)))], [], []⟩) (by kernel_rfl) (allP_cons.2 ⟨g46, (allP_cons.2 ⟨g47, (allP_cons.2 ⟨g48, allP_nil⟩)⟩)⟩) ?_
                          refine W_co [] [4] [] (s' := (lBits_R false)) (by kernel_rfl) (W_ret ?_)
                          exact ⟨.inl rfl, by cases h; rfl⟩
                      · replace h := bif_f h g47
                        refine W_reg hT ftL_nil [(1, true), (5, false)] [] [4] [] (s' := ⟨[(4, .c (.s (.b false)))], [], []⟩) (by kernel_rfl) (allP_cons.2 ⟨g46, (allP_cons.2 ⟨g47, allP_nil⟩)⟩) ?_
                        refine W_co [] [4] [] (s' := (lBits_R false)) (by kernel_rfl) (W_ret ?_)
                        exact ⟨.inl rfl, by cases h; rfl⟩
                    · replace h := bif_f h g46
                      refine W_reg hT ftL_nil [(1, false)] [] [4] [] (s' := ⟨[(4, .c (.s (.b false)))], [], []⟩) (by kernel_rfl) (allP_cons.2 ⟨g46, allP_nil⟩) ?_
                      refine W_co [] [4] [] (s' := (lBits_R false)) (by kernel_rfl) (W_ret ?_)
                      exact ⟨.inl rfl, by cases h; rfl⟩
        · replace h := bif_f h g5
          rcases Bool.eq_false_or_eq_true r30 with g51 | g51
          · replace h := bif_t h g51
            rcases Bool.eq_false_or_eq_true (!((r26.2).isNone)) with g52 | g52
            · replace h := bif_t h g52
              refine W_regG hT ftL_nil (by kernel_rfl) [(2, false), (14, true), (17, true)] [0, 1, 2, 3, 4, 5, 6, 7, 8, 9, 10, 11, 12, 13, 14, 15, 16, 17, 18, 19, 20, 21, 22, 23, 24, 25, 26, 27, 28, 29, 30, 31] [[0, 1, 2, 3, 4, 5, 6, 7, 8, 9, 10, 11, 12, 13, 14, 15, 16, 17, 18, 19, 20, 21, 22, 23, 24, 25, 26, 27, 28, 29, 30, 31]] [⟨[(1, .c (.wh 0)), (2, .c (.pt 1 0)), (5, .c (.s (.b r13))), (6, .c (.wh 3)), (7, .c (.s (.er 31 .i64 r26.2))), (8, .c (.s (.b r30))), (31, .c (.s (.b r30))), (32, .c (.s (.b (!r30)))), (33, .c (.s (.b false))), (34, .t []), (35, .t []), (36, .t []), (37, .t []), (38, .t []), (39, .t []), (40, .t []), (41, .t []), (42, .c (.s (.b false))), (43, .c (.s (.b false))), (44, .c (.s (.b r30))), (45, .c (.s (.b true))), (46, .c (.s (.er 31 .i64 r26.2))), (47, .c (.s (.b (!((r26.2).isNone))))), (48, .c (.s (.b true))), (49, .t []), (50, .t []), (51, .t []), (52, .t []), (53, .t []), (54, .t []), (55, .t []), (56, .t []), (57, .t []), (58, .t []), (59, .t []), (60, .c (.s (.b true))), (61, .c (.s (.b true))), (62, .c (.s (.b true)))], [], [⟨(.ro false), 5, 1, l1.length, .b l1⟩, ⟨.blk, 45, 1, 2, .c [.wh 2, .s (.k .i64 l0_1)]⟩, ⟨(.ro false), 5, 1, l0_0.length, .b l0_0⟩, ⟨.row, 5, 1, r26.1.length, .b r26.1⟩]⟩] [0, 1, 2, 3, 4, 5, 6, 7, 8, 9, 10, 11, 12, 13, 14, 15, 16, 17, 18, 19, 20, 21, 22, 23, 24, 25, 26, 27, 28, 29, 30, 31] [] [(0, 0), (0, 1), (0, 2), (0, 3), (0, 4), (0, 5), (0, 6), (0, 7), (0, 8), (0, 9), (0, 10), (0, 11), (0, 12), (0, 13), (0, 14), (0, 15), (0, 16), (0, 17), (0, 18), (0, 19), (0, 20), (0, 21), (0, 22), (0, 23), (0, 24), (0, 25), (0, 26), (0, 27), (0, 28), (0, 29), (0, 30), (0, 31)] 0 [1, 2, 5, 6, 7, 8, 31, 32, 33, 34, 35, 36, 37, 38, 39, 40, 41, 42, 43, 44, 45, 46, 47, 48, 49, 50, 51, 52, 53, 54, 55, 56, 57, 58, 59, 60, 61, 62] [0, 1, 2, 3] [] [1, 5, 62] [0] (s' := ⟨[(1, .c (.wh 0)), (5, .c (.s (.b r13))), (62, .c (.s (.b true)))], [], [⟨(.ro false), 5, 1, l1.length, .b l1⟩]⟩) (by kernel_rfl) ⟨_, (by kernel_rfl), (allP_cons.2 ⟨g5, (allP_cons.2 ⟨g51, (allP_cons.2 ⟨g52, allP_nil⟩)⟩)⟩)⟩ AllE.nil (AllR.cons ⟨_, (by kernel_rfl), allP_nil⟩ (AllR.cons ⟨_, (by kernel_rfl), allP_nil⟩ (AllR.cons ⟨_, (by kernel_rfl), (allP_cons.2 ⟨g5, allP_nil⟩)⟩ (AllR.cons ⟨_, (by kernel_rfl), allP_nil⟩ (AllR.cons ⟨_, (by kernel_rfl), allP_nil⟩ (AllR.cons ⟨_, (by kernel_rfl), allP_nil⟩ (AllR.cons ⟨_, (by kernel_rfl), allP_nil⟩ (AllR.cons ⟨_, (by kernel_rfl), allP_nil⟩ (AllR.cons ⟨_, (by kernel_rfl), allP_nil⟩ (AllR.cons ⟨_, (by kernel_rfl), allP_nil⟩ (AllR.cons ⟨_, (by kernel_rfl), allP_nil⟩ (AllR.cons ⟨_, (by kernel_rfl), allP_nil⟩ (AllR.cons ⟨_, (by kernel_rfl), allP_nil⟩ (AllR.cons ⟨_, (by kernel_rfl), allP_nil⟩ (AllR.cons ⟨_, (by kernel_rfl), (allP_cons.2 ⟨g51, allP_nil⟩)⟩ (AllR.cons ⟨_, (by kernel_rfl), allP_nil⟩ (AllR.cons ⟨_, (by kernel_rfl), allP_nil⟩ (AllR.cons ⟨_, (by kernel_rfl), (allP_cons.2 ⟨g52, allP_nil⟩)⟩ (AllR.cons ⟨_, (by kernel_rfl), allP_nil⟩ (AllR.cons ⟨_, (by kernel_rfl), allP_nil⟩ (AllR.cons ⟨_, (by kernel_rfl), allP_nil⟩ (AllR.cons ⟨_, (by kernel_rfl), allP_nil⟩ (AllR.cons ⟨_, (by kernel_rfl), allP_nil⟩ (AllR.cons ⟨_, (by kernel_rfl), allP_nil⟩ (AllR.cons ⟨_, (by kernel_rfl), allP_nil⟩ (AllR.cons ⟨_, (by kernel_rfl), allP_nil⟩ (AllR.cons ⟨_, (by kernel_rfl), allP_nil⟩ (AllR.cons ⟨_, (by kernel_rfl), allP_nil⟩ (AllR.cons ⟨_, (by kernel_rfl), allP_nil⟩ (AllR.cons ⟨_, (by kernel_rfl), allP_nil⟩ (AllR.cons ⟨_, (by kernel_rfl), allP_nil⟩ (AllR.cons ⟨_, (by kernel_rfl), allP_nil⟩ AllR.nil)))))))))))))))))))))))))))))))) (by kernel_rfl) ?_
              refine W_cond (b := true) (by kernel_rfl) (fun _ => ?_) (fun hb => by cases hb)
              refine W_seq ?_
              refine W_reg hT ftL_nil [] [] [4] [] (s' := ⟨[(4, .c (.s (.b false)))], [], []⟩) (by kernel_rfl) allP_nil ?_
              refine W_co [] [4] [] (s' := (lBits_R false)) (by kernel_rfl) (W_ret ?_)
              exact ⟨.inl rfl, by cases h; rfl⟩
            · replace h := bif_f h g52
              obtain ⟨g53, h⟩ := gd_some h
              refine W_regG hT ftL_nil (by kernel_rfl) [(2, false), (14, true), (17, false)] [0, 1, 2, 3, 4, 5, 6, 7, 8, 9, 10, 11, 12, 13, 14, 15, 16, 17, 18, 19, 20, 21, 22, 24, 25, 27, 28, 29, 30, 31] [[0, 1, 2, 3, 4, 5, 6, 7, 8, 9, 10, 11, 12, 13, 14, 15, 16, 17, 18, 19, 20, 21, 22, 24, 25], [0, 1, 2, 3, 4, 5, 6, 7, 8, 9, 10, 11, 12, 13, 14, 15, 16, 17, 18, 19, 20, 21, 22, 23, 24, 25], [0, 1, 2, 3, 4, 5, 6, 7, 8, 9, 10, 11, 12, 13, 14, 15, 16, 17, 18, 19, 20, 21, 22, 23, 24, 25, 26, 27, 28, 29, 30, 31]] [⟨[(1, .c (.wh 0)), (2, .c (.pt 1 0)), (5, .c (.s (.b r13))), (6, .c (.wh 3)), (7, .c (.s (.er 31 .i64 r26.2))), (8, .c (.s (.b r30))), (31, .c (.s (.b r30))), (32, .c (.s (.b (!r30)))), (33, .c (.s (.b false))), (34, .t []), (35, .t []), (36, .t []), (37, .t []), (38, .t []), (39, .t []), (40, .t []), (41, .t []), (42, .c (.s (.b false))), (43, .c (.s (.b false))), (44, .c (.s (.b r30))), (45, .c (.s (.b true))), (46, .c (.s (.er 31 .i64 r26.2))), (47, .c (.s (.b (!((r26.2).isNone))))), (48, .c (.s (.b false))), (49, .c (.wh 3)), (50, .c (.s (.str r26.1))), (51, .c (.pt 1 1)), (52, .c (.s (.k .i64 l0_1))), (53, .c (.s (.u8 (UInt8.ofInt l0_1)))), (55, .c (.pt 1 0)), (56, .c (.wh 2))], [], [⟨(.ro false), 5, 1, l1.length, .b l1⟩, ⟨.blk, 45, 1, 2, .c [.wh 2, .s (.k .i64 l0_1)]⟩, ⟨(.ro false), 5, 1, l0_0.length, .b l0_0⟩, ⟨.row, 5, 1, r26.1.length, .b r26.1⟩]⟩, ⟨[(1, .c (.wh 0)), (2, .c (.pt 1 0)), (5, .c (.s (.b r13))), (6, .c (.wh 3)), (43, .c (.s (.b false))), (45, .c (.s (.b true))), (48, .c (.s (.b false))), (49, .c (.wh 3)), (50, .c (.s (.str r26.1))), (54, .c (.wh 4)), (55, .c (.pt 1 0)), (56, .c (.wh 2))], [], [⟨(.ro false), 5, 1, l1.length, .b l1⟩, ⟨.blk, 45, 1, 2, .c [.wh 2, .s (.k .i64 l0_1)]⟩, ⟨(.ro false), 5, 1, l0_0.length, .b l0_0⟩, ⟨.row, 5, 1, r26.1.length, .b r26.1⟩, ⟨.row, 5, 1, 1, .b [(UInt8.ofInt l0_1)]⟩]⟩, ⟨[(1, .c (.wh 0)), (5, .c (.s (.b r13))), (6, .c (.wh 1)), (43, .c (.s (.b false))), (45, .c (.s (.b true))), (48, .c (.s (.b false))), (49, .c (.wh 1)), (50, .c (.s (.str r26.1))), (57, .c (.wh 2)), (58, .c (.s (.str ([(UInt8.ofInt l0_1)] ++ l0_0)))), (59, .c (.s (.b (r26.1 != ([(UInt8.ofInt l0_1)] ++ l0_0))))), (60, .c (.s (.b (r26.1 != ([(UInt8.ofInt l0_1)] ++ l0_0))))), (61, .c (.s (.b (r26.1 != ([(UInt8.ofInt l0_1)] ++ l0_0))))), (62, .c (.s (.b (r26.1 != ([(UInt8.ofInt l0_1)] ++ l0_0)))))], [], [⟨(.ro false), 5, 1, l1.length, .b l1⟩, ⟨.row, 5, 1, r26.1.length, .b r26.1⟩, ⟨.row, 5, 1, ([(UInt8.ofInt l0_1)] ++ l0_0).length, .b ([(UInt8.ofInt l0_1)] ++ l0_0)⟩]⟩] [0, 1, 2, 3, 4, 5, 6, 7, 8, 9, 10, 11, 12, 13, 14, 15, 16, 17, 18, 19, 20, 21, 22, 24, 25] [⟨0, 23, 1, [], [], [1, 2, 5, 6, 43, 45, 48, 49, 50, 54, 55, 56], [0, 1, 2, 3, 4]⟩, ⟨1, 26, 2, [27, 28, 29, 30, 31], [], [1, 5, 6, 43, 45, 48, 49, 50, 57, 58, 59, 60, 61, 62], [0, 3, 5]⟩] [(0, 0), (0, 1), (0, 2), (0, 3), (0, 4), (0, 5), (0, 6), (0, 7), (0, 8), (0, 9), (0, 10), (0, 11), (0, 12), (0, 13), (0, 14), (0, 15), (0, 16), (0, 17), (0, 18), (0, 19), (0, 20), (0, 21), (0, 22), (0, 24), (0, 25), (1, 18), (1, 19), (1, 24), (1, 25), (2, 18), (2, 19), (2, 27), (2, 28), (2, 29), (2, 30), (2, 31)] 2 [1, 2, 5, 6, 7, 8, 31, 32, 33, 34, 35, 36, 37, 38, 39, 40, 41, 42, 43, 44, 45, 46, 47, 48, 49, 50, 51, 52, 53, 55, 56] [0, 1, 2, 3] [] [1, 5, 62] [0] (s' := ⟨[(1, .c (.wh 0)), (5, .c (.s (.b r13))), (62, .c (.s (.b (r26.1 != ([(UInt8.ofInt l0_1)] ++ l0_0)))))], [], [⟨(.ro false), 5, 1, l1.length, .b l1⟩]⟩) (by kernel_rfl) ⟨_, (by kernel_rfl), (allP_cons.2 ⟨g5, (allP_cons.2 ⟨g51, (allP_cons.2 ⟨g52, allP_nil⟩)⟩)⟩)⟩ (AllE.cons ⟨_, (by kernel_rfl), allP_nil⟩ (AllE.cons ⟨_, (by kernel_rfl), (allP_cons.2 ⟨g53, allP_nil⟩)⟩ AllE.nil)) (AllR.cons ⟨_, (by kernel_rfl), allP_nil⟩ (AllR.cons ⟨_, (by kernel_rfl), allP_nil⟩ (AllR.cons ⟨_, (by kernel_rfl), (allP_cons.2 ⟨g5, allP_nil⟩)⟩ (AllR.cons ⟨_, (by kernel_rfl), allP_nil⟩ (AllR.cons ⟨_, (by kernel_rfl), allP_nil⟩ (AllR.cons ⟨_, (by kernel_rfl), allP_nil⟩ (AllR.cons ⟨_, (by kernel_rfl), allP_nil⟩ (AllR.cons ⟨_, (by kernel_rfl), allP_nil⟩ (AllR.cons ⟨_, (by kernel_rfl), allP_nil⟩ (AllR.cons ⟨_, (by kernel_rfl), allP_nil⟩ (AllR.cons ⟨_, (by kernel_rfl), allP_nil⟩ (AllR.cons ⟨_, (by kernel_rfl), allP_nil⟩ (AllR.cons ⟨_, (by kernel_rfl), allP_nil⟩ (AllR.cons ⟨_, (by kernel_rfl), allP_nil⟩ (AllR.cons ⟨_, (by kernel_rfl), (allP_cons.2 ⟨g51, allP_nil⟩)⟩ (AllR.cons ⟨_, (by kernel_rfl), allP_nil⟩ (AllR.cons ⟨_, (by kernel_rfl), allP_nil⟩ (AllR.cons ⟨_, (by kernel_rfl), (allP_cons.2 ⟨g52, allP_nil⟩)⟩ (AllR.cons ⟨_, (by kernel_rfl), allP_nil⟩ (AllR.cons ⟨_, (by kernel_rfl), allP_nil⟩ (AllR.cons ⟨_, (by kernel_rfl), allP_nil⟩ (AllR.cons ⟨_, (by kernel_rfl), allP_nil⟩ (AllR.cons ⟨_, (by kernel_rfl), allP_nil⟩ (AllR.cons ⟨_, (by kernel_rfl), allP_nil⟩ (AllR.cons ⟨_, (by kernel_rfl), allP_nil⟩ (AllR.cons ⟨_, (by kernel_rfl), allP_nil⟩ (AllR.cons ⟨_, (by kernel_rfl), allP_nil⟩ (AllR.cons ⟨_, (by kernel_rfl), allP_nil⟩ (AllR.cons ⟨_, (by kernel_rfl), allP_nil⟩ (AllR.cons ⟨_, (by kernel_rfl), allP_nil⟩ (AllR.cons ⟨_, (by kernel_rfl), allP_nil⟩ (AllR.cons ⟨_, (by kernel_rfl), allP_nil⟩ (AllR.cons ⟨_, (by kernel_rfl), allP_nil⟩ (AllR.cons ⟨_, (by kernel_rfl), allP_nil⟩ (AllR.cons ⟨_, (by kernel_rfl), allP_nil⟩ (AllR.cons ⟨_, (by kernel_rfl), allP_nil⟩ AllR.nil)))))))))))))))))))))))))))))))))))) (by kernel_rfl) ?_
              refine W_cond (b := (r26.1 != ([(UInt8.ofInt l0_1)] ++ l0_0))) (by kernel_rfl) (fun g73 => ?_) (fun g73 => ?_)
              · replace h := bif_t h g73
                refine W_seq ?_
                refine W_reg hT ftL_nil [] [] [4] [] (s' := ⟨[(4, .c (.s (.b false)))], [], []⟩) (by kernel_rfl) allP_nil ?_
                refine W_co [] [4] [] (s' := (lBits_R false)) (by kernel_rfl) (W_ret ?_)
                exact ⟨.inl rfl, by cases h; rfl⟩
              · replace h := bif_f h g73
                refine W_co [] [1, 5] [0] (s' := ⟨[(1, .c (.wh 0)), (5, .c (.s (.b r13)))], [], [⟨(.ro false), 5, 1, l1.length, .b l1⟩]⟩) (by kernel_rfl) (W_skip ?_)
                refine W_seq ?_
                obtain ⟨r65, g54, h⟩ := bind_some' h
                refine W_reg hT (ftL_cons (k := 1) (f := 26) (F := (pReadBits_ct n r65)) (pReadBits_ok n r65) (fun _ _ => True.intro) ftL_nil) [] [] [1, 5, 9, 10] [0, 2, 1] (s' := ⟨[(1, .c (.wh 0)), (5, .c (.s (.b r13))), (9, .c (.pt 1 0)), (10, .c (.s (.er 31 .i64 r65.2.2)))], [], [⟨(.ro false), 5, 1, l1.length, .b l1⟩, ⟨.blk, 45, 1, 2, .c [.wh 2, .s (.k .i64 r65.2.1)]⟩, ⟨.row, 5, 1, r65.1.length, .b r65.1⟩]⟩) (by kernel_rfl) (allP_cons.2 ⟨g54, allP_nil⟩) ?_
                refine W_seq ?_
                refine W_seq ?_
                refine W_reg hT ftL_nil [] [] [1, 5, 9, 10, 70] [0, 1, 2] (s' := ⟨[(1, .c (.wh 0)), (5, .c (.s (.b r13))), (9, .c (.pt 1 0)), (10, .c (.s (.er 31 .i64 r65.2.2))), (70, .c (.s (.b (((l1.length : Nat) : Int) == 0))))], [], [⟨(.ro false), 5, 1, l1.length, .b l1⟩, ⟨.blk, 45, 1, 2, .c [.wh 2, .s (.k .i64 r65.2.1)]⟩, ⟨.row, 5, 1, r65.1.length, .b r65.1⟩]⟩) (by kernel_rfl) allP_nil ?_
                refine W_cond (b := (((l1.length : Nat) : Int) == 0)) (by kernel_rfl) (fun g72 => ?_) (fun g72 => ?_)
                · replace h := bif_t h g72
                  refine W_seq ?_
                  rcases Bool.eq_false_or_eq_true r13 with g55 | g55
                  · replace h := bif_t h g55
                    obtain ⟨g56, h⟩ := gd_some h
                    rcases Bool.eq_false_or_eq_true (r65.2.2 == (some 2)) with g57 | g57
                    · replace h := bif_t h g57
                      rcases Bool.eq_false_or_eq_true (((r65.1.length : Nat) : Int) == 0) with g58 | g58
                      · replace h := bif_t h g58
                        refine W_reg hT ftL_nil [(1, true), (6, true), (12, true)] [] [4] [] (s' := ⟨[(4, .c (.s (.b (r65.2.1 == 0))))], [], []⟩) (by kernel_rfl) (allP_cons.2 ⟨g55, (allP_cons.2 ⟨g56, (allP_cons.2 ⟨g57, (allP_cons.2 ⟨g58, allP_nil⟩)⟩)⟩)⟩) ?_
                        refine W_co [] [4] [] (s' := (lBits_R (r65.2.1 == 0))) (by kernel_rfl) (W_ret ?_)
                        exact ⟨.inl rfl, by cases h; rfl⟩
                      · replace h := bif_f h g58
                        refine W_reg hT ftL_nil [(1, true), (6, true), (12, false)] [] [4] [] (s' := ⟨[(4, .c (.s (.b false)))], [], []⟩) (by kernel_rfl) (allP_cons.2 ⟨g55, (allP_cons.2 ⟨g56, (allP_cons.2 ⟨g57, (allP_cons.2 ⟨g58, allP_nil⟩)⟩)⟩)⟩) ?_
                        refine W_co [] [4] [] (s' := (lBits_R false)) (by kernel_rfl) (W_ret ?_)
                        exact ⟨.inl rfl, by cases h; rfl⟩
                    · replace h := bif_f h g57
                      refine W_reg hT ftL_nil [(1, true), (6, false)] [] [4] [] (s' := ⟨[(4, .c (.s (.b false)))], [], []⟩) (by kernel_rfl) (allP_cons.2 ⟨g55, (allP_cons.2 ⟨g56, (allP_cons.2 ⟨g57, allP_nil⟩)⟩)⟩) ?_
                      refine W_co [] [4] [] (s' := (lBits_R false)) (by kernel_rfl) (W_ret ?_)
                      exact ⟨.inl rfl, by cases h; rfl⟩
                  · replace h := bif_f h g55
                    refine W_reg hT ftL_nil [(1, false)] [] [4] [] (s' := ⟨[(4, .c (.s (.b false)))], [], []⟩) (by kernel_rfl) (allP_cons.2 ⟨g55, allP_nil⟩) ?_
                    refine W_co [] [4] [] (s' := (lBits_R false)) (by kernel_rfl) (W_ret ?_)
                    exact ⟨.inl rfl, by cases h; rfl⟩
                · replace h := bif_f h g72
                  refine W_co [] [1, 5, 9, 10] [0, 1, 2] (s' := ⟨[(1, .c (.wh 0)), (5, .c (.s (.b r13))), (9, .c (.pt 1 0)), (10, .c (.s (.er 31 .i64 r65.2.2)))], [], [⟨(.ro false), 5, 1, l1.length, .b l1⟩, ⟨.blk, 45, 1, 2, .c [.wh 2, .s (.k .i64 r65.2.1)]⟩, ⟨.row, 5, 1, r65.1.length, .b r65.1⟩]⟩) (by kernel_rfl) (W_skip ?_)
                  refine W_seq ?_
                  obtain ⟨g59, h⟩ := gd_some h
                  obtain ⟨g60, h⟩ := gd_some h
                  obtain ⟨g61, h⟩ := gd_some h
                  obtain ⟨g62, h⟩ := gd_some h
                  refine W_regD hT ftL_nil (by kernel_rfl) 8 [] [(5, false), (9, false), (10, false), (11, false), (94, false)] [] [5, 9, 10, 11] [1, 2, 3, 0] (s' := ⟨[(5, .c (.s (.b r13))), (9, .c (.pt 0 0)), (10, .c (.s (.er 31 .i64 r65.2.2))), (11, .c (.pt 2 0))], [], [⟨.blk, 45, 1, 2, .c [.wh 1, .s (.k .i64 r65.2.1)]⟩, ⟨.row, 5, 1, r65.1.length, .b r65.1⟩, ⟨.blk, 45, 1, 2, .c [.sl 3 1 (l1.length - 1), .s (.k .i64 (((l1.getD 0 0).toNat : Nat) : Int))]⟩, ⟨(.ro false), 5, 1, l1.length, .b l1⟩]⟩) (by kernel_rfl) (by kernel_rfl) (allP_cons.2 ⟨g59, (allP_cons.2 ⟨g60, (allP_cons.2 ⟨g61, (allP_cons.2 ⟨g62, allP_nil⟩)⟩)⟩)⟩) ?_
                  refine W_seq ?_
                  obtain ⟨r96, g63, h⟩ := bind_some' h
                  refine W_reg hT (ftL_cons (k := 1) (f := 25) (F := (rBits_ct n r96)) (rBits_ok n r96) (fun _ _ => True.intro) ftL_nil) [] [] [5, 9, 10, 11, 12] [0, 1, 2, 3] (s' := ⟨[(5, .c (.s (.b r13))), (9, .c (.pt 0 0)), (10, .c (.s (.er 31 .i64 r65.2.2))), (11, .c (.pt 2 0)), (12, .c (.s (.b r96)))], [], [⟨.blk, 45, 1, 2, .c [.wh 1, .s (.k .i64 r65.2.1)]⟩, ⟨.row, 5, 1, r65.1.length, .b r65.1⟩, ⟨.blk, 45, 1, 2, .c [.sl 3 1 (l1.length - 1), .s (.k .i64 (((l1.getD 0 0).toNat : Nat) : Int))]⟩, ⟨(.ro false), 5, 1, l1.length, .b l1⟩]⟩) (by kernel_rfl) (allP_cons.2 ⟨g63, allP_nil⟩) ?_
                  refine W_seq ?_
                  refine W_seq ?_
                  refine W_reg hT ftL_nil [] [] [5, 9, 10, 11, 98] [0, 1, 2, 3] (s' := ⟨[(5, .c (.s (.b r13))), (9, .c (.pt 0 0)), (10, .c (.s (.er 31 .i64 r65.2.2))), (11, .c (.pt 2 0)), (98, .c (.s (.b (!r96))))], [], [⟨.blk, 45, 1, 2, .c [.wh 1, .s (.k .i64 r65.2.1)]⟩, ⟨.row, 5, 1, r65.1.length, .b r65.1⟩, ⟨.blk, 45, 1, 2, .c [.sl 3 1 (l1.length - 1), .s (.k .i64 (((l1.getD 0 0).toNat : Nat) : Int))]⟩, ⟨(.ro false), 5, 1, l1.length, .b l1⟩]⟩) (by kernel_rfl) allP_nil ?_
                  refine W_cond (b := (!r96)) (by kernel_rfl) (fun g71 => ?_) (fun g71 => ?_)
                  · replace h := bif_t h g71
                    refine W_seq ?_
                    rcases Bool.eq_false_or_eq_true r13 with g64 | g64
                    · replace h := bif_t h g64
                      obtain ⟨g65, h⟩ := gd_some h
                      rcases Bool.eq_false_or_eq_true (r65.2.2 == (some 2)) with g66 | g66
                      · replace h := bif_t h g66
                        rcases Bool.eq_false_or_eq_true (((r65.1.length : Nat) : Int) == 0) with g67 | g67
                        · replace h := bif_t h g67
                          refine W_reg hT ftL_nil [(1, true), (6, true), (12, true)] [] [4] [] (s' := ⟨[(4, .c (.s (.b (r65.2.1 == 0))))], [], []⟩) (by kernel_rfl) (allP_cons.2 ⟨g64, (allP_cons.2 ⟨g65, (allP_cons.2 ⟨g66, (allP_cons.2 ⟨g67, allP_nil⟩)⟩)⟩)⟩) ?_
                          refine W_co [] [4] [] (s' := (lBits_R (r65.2.1 == 0))) (by kernel_rfl) (W_ret ?_)
                          exact ⟨.inl rfl, by cases h; rfl⟩
                        · replace h := bif_f h g67
                          refine W_reg hT ftL_nil [(1, true), (6, true), (12, false)] [] [4] [] (s' := ⟨[(4, .c (.s (.b false)))], [], []⟩) (by kernel_rfl) (allP_cons.2 ⟨g64, (allP_cons.2 ⟨g65, (allP_cons.2 ⟨g66, (allP_cons.2 ⟨g67, allP_nil⟩)⟩)⟩)⟩) ?_
                          refine W_co [] [4] [] (s' := (lBits_R false)) (by kernel_rfl) (W_ret ?_)
                          exact ⟨.inl rfl, by cases h; rfl⟩
                      · replace h := bif_f h g66
                        refine W_reg hT ftL_nil [(1, true), (6, false)] [] [4] [] (s' := ⟨[(4, .c (.s (.b false)))], [], []⟩) (by kernel_rfl) (allP_cons.2 ⟨g64, (allP_cons.2 ⟨g65, (allP_cons.2 ⟨g66, allP_nil⟩)⟩)⟩) ?_
                        refine W_co [] [4] [] (s' := (lBits_R false)) (by kernel_rfl) (W_ret ?_)
                        exact ⟨.inl rfl, by cases h; rfl⟩
                    · replace h := bif_f h g64
                      refine W_reg hT ftL_nil [(1, false)] [] [4] [] (s' := ⟨[(4, .c (.s (.b false)))], [], []⟩) (by kernel_rfl) (allP_cons.2 ⟨g64, allP_nil⟩) ?_
                      refine W_co [] [4] [] (s' := (lBits_R false)) (by kernel_rfl) (W_ret ?_)
                      exact ⟨.inl rfl, by cases h; rfl⟩
                  · replace h := bif_f h g71
                    refine W_co [] [5, 9, 10, 11] [0, 1, 2, 3] (s' := ⟨[(5, .c (.s (.b r13))), (9, .c (.pt 0 0)), (10, .c (.s (.er 31 .i64 r65.2.2))), (11, .c (.pt 2 0))], [], [⟨.blk, 45, 1, 2, .c [.wh 1, .s (.k .i64 r65.2.1)]⟩, ⟨.row, 5, 1, r65.1.length, .b r65.1⟩, ⟨.blk, 45, 1, 2, .c [.sl 3 1 (l1.length - 1), .s (.k .i64 (((l1.getD 0 0).toNat : Nat) : Int))]⟩, ⟨(.ro false), 5, 1, l1.length, .b l1⟩]⟩) (by kernel_rfl) (W_skip ?_)
                    refine W_seq ?_
                    rcases Bool.eq_false_or_eq_true r13 with g68 | g68
                    · replace h := bif_t h g68
                      rcases Bool.eq_false_or_eq_true ((r65.2.2).isNone) with g69 | g69
                      · replace h := bif_t h g69
                        rcases Bool.eq_false_or_eq_true (r65.1 == ((l1.drop 1).take (l1.length - 1))) with g70 | g70
                        · replace h := bif_t h g70
                          refine W_reg hT ftL_nil [(1, true), (5, true), (14, true)] [] [4] [] (s' := ⟨[(4, .c (.s (.b (r65.2.1 == (((l1.getD 0 0).toNat : Nat) : Int)))))], [], []⟩) (by kernel_rfl) (allP_cons.2 ⟨g68, (allP_cons.2 ⟨g69, (allP_cons.2 ⟨g70, allP_nil⟩)⟩)⟩) ?_
                          refine W_co [] [4] [] (s' := (lBits_R (r65.2.1 == (((l1.getD 0 0).toNat : Nat) : Int)))) (by kernel_rfl) (W_ret ?_)
                          exact ⟨.inl rfl, by cases h; rfl⟩
                        · replace h := bif_f h g70
                          refine W_reg hT ftL_nil [(1, true), (5, true), (14, false)] [] [4] [] (s' := ⟨[(4, .c (.s (.b false)))], [], []⟩) (by kernel_rfl) (allP_cons.2 ⟨g68, (allP_cons.2 ⟨g69, (allP_cons.2 ⟨g70, allP_nil⟩)⟩)⟩) ?_
                          refine W_co [] [4] [] (s' := (lBits_R false)) (by kernel_rfl) (W_ret ?_)
                          exact ⟨.inl rfl, by cases h; rfl⟩
                      · replace h := bif_f h g69
                        refine W_reg hT ftL_nil [(1, true), (5, false)] [] [4] [] (s' := ⟨[(4, .c (.s (.b false)))], [], []⟩) (by kernel_rfl) (allP_cons.2 ⟨g68, (allP_cons.2 ⟨g69, allP_nil⟩)⟩) ?_
                        refine W_co [] [4] [] (s' := (lBits_R false)) (by kernel_rfl) (W_ret ?_)
                        exact ⟨.inl rfl, by cases h; rfl⟩
                    · replace h := bif_f h g68
                      refine W_reg hT ftL_nil [(1, false)] [] [4] [] (s' := ⟨[(4, .c (.s (.b false)))], [], []⟩) (by kernel_rfl) (allP_cons.2 ⟨g68, allP_nil⟩) ?_
                      refine W_co [] [4] [] (s' := (lBits_R false)) (by kernel_rfl) (W_ret ?_)
                      exact ⟨.inl rfl, by cases h; rfl⟩
          · replace h := bif_f h g51
            refine W_regG hT ftL_nil (by kernel_rfl) [(2, false), (14, false)] [0, 1, 2, 3, 4, 5, 6, 7, 8, 9, 10, 11, 12, 13, 14, 15, 16, 17, 18, 19, 20, 21, 22, 23, 24, 25, 26, 27, 28, 29, 30, 31] [[0, 1, 2, 3, 4, 5, 6, 7, 8, 9, 10, 11, 12, 13, 14, 15, 16, 17, 18, 19, 20, 21, 22, 23, 24, 25, 26, 27, 28, 29, 30, 31]] [⟨[(1, .c (.wh 0)), (2, .c (.pt 1 0)), (5, .c (.s (.b r13))), (6, .c (.wh 3)), (7, .c (.s (.er 31 .i64 r26.2))), (8, .c (.s (.b r30))), (31, .c (.s (.b r30))), (32, .c (.s (.b (!r30)))), (33, .c (.s (.b false))), (34, .t []), (35, .t []), (36, .t []), (37, .t []), (38, .t []), (39, .t []), (40, .t []), (41, .t []), (42, .c (.s (.b false))), (43, .c (.s (.b false))), (44, .c (.s (.b r30))), (45, .c (.s (.b false))), (46, .t []), (47, .t []), (48, .t []), (49, .t []), (50, .t []), (51, .t []), (52, .t []), (53, .t []), (54, .t []), (55, .t []), (56, .t []), (57, .t []), (58, .t []), (59, .t []), (60, .t []), (61, .c (.s (.b false))), (62, .c (.s (.b false)))], [], [⟨(.ro false), 5, 1, l1.length, .b l1⟩, ⟨.blk, 45, 1, 2, .c [.wh 2, .s (.k .i64 l0_1)]⟩, ⟨(.ro false), 5, 1, l0_0.length, .b l0_0⟩, ⟨.row, 5, 1, r26.1.length, .b r26.1⟩]⟩] [0, 1, 2, 3, 4, 5, 6, 7, 8, 9, 10, 11, 12, 13, 14, 15, 16, 17, 18, 19, 20, 21, 22, 23, 24, 25, 26, 27, 28, 29, 30, 31] [] [(0, 0), (0, 1), (0, 2), (0, 3), (0, 4), (0, 5), (0, 6), (0, 7), (0, 8), (0, 9), (0, 10), (0, 11), (0, 12), (0, 13), (0, 14), (0, 15), (0, 16), (0, 17), (0, 18), (0, 19), (0, 20), (0, 21), (0, 22), (0, 23), (0, 24), (0, 25), (0, 26), (0, 27), (0, 28), (0, 29), (0, 30), (0, 31)] 0 [1, 2, 5, 6, 7, 8, 31, 32, 33, 34, 35, 36, 37, 38, 39, 40, 41, 42, 43, 44, 45, 46, 47, 48, 49, 50, 51, 52, 53, 54, 55, 56, 57, 58, 59, 60, 61, 62] [0, 1, 2, 3] [] [1, 5, 62] [0] (s' := ⟨[(1, .c (.wh 0)), (5, .c (.s (.b r13))), (62, .c (.s (.b false)))], [], [⟨(.ro false), 5, 1, l1.length, .b l1⟩]⟩) (by kernel_rfl) ⟨_, (by kernel_rfl), (allP_cons.2 ⟨g5, (allP_cons.2 ⟨g51, allP_nil⟩)⟩)⟩ AllE.nil (AllR.cons ⟨_, (by kernel_rfl), allP_nil⟩ (AllR.cons ⟨_, (by kernel_rfl), allP_nil⟩ (AllR.cons ⟨_, (by kernel_rfl), (allP_cons.2 ⟨g5, allP_nil⟩)⟩ (AllR.cons ⟨_, (by kernel_rfl), allP_nil⟩ (AllR.cons ⟨_, (by kernel_rfl), allP_nil⟩ (AllR.cons ⟨_, (by kernel_rfl), allP_nil⟩ (AllR.cons ⟨_, (by kernel_rfl), allP_nil⟩ (AllR.cons ⟨_, (by kernel_rfl), allP_nil⟩ (AllR.cons ⟨_, (by kernel_rfl), allP_nil⟩ (AllR.cons ⟨_, (by kernel_rfl), allP_nil⟩ (AllR.cons ⟨_, (by kernel_rfl), allP_nil⟩ (AllR.cons ⟨_, (by kernel_rfl), allP_nil⟩ (AllR.cons ⟨_, (by kernel_rfl), allP_nil⟩ (AllR.cons ⟨_, (by kernel_rfl), allP_nil⟩ (AllR.cons ⟨_, (by kernel_rfl), (allP_cons.2 ⟨g51, allP_nil⟩)⟩ (AllR.cons ⟨_, (by kernel_rfl), allP_nil⟩ (AllR.cons ⟨_, (by kernel_rfl), allP_nil⟩ (AllR.cons ⟨_, (by kernel_rfl), allP_nil⟩ (AllR.cons ⟨_, (by kernel_rfl), allP_nil⟩ (AllR.cons ⟨_, (by kernel_rfl), allP_nil⟩ (AllR.cons ⟨_, (by kernel_rfl), allP_nil⟩ (AllR.cons ⟨_, (by kernel_rfl), allP_nil⟩ (AllR.cons ⟨_, (by kernel_rfl), allP_nil⟩ (AllR.cons ⟨_, (by kernel_rfl), allP_nil⟩ (AllR.cons ⟨_, (by kernel_rfl), allP_nil⟩ (AllR.cons ⟨_, (by kernel_rfl), allP_nil⟩ (AllR.cons ⟨_, (by kernel_rfl), allP_nil⟩ (AllR.cons ⟨_, (by kernel_rfl), allP_nil⟩ (AllR.cons ⟨_, (by kernel_rfl), allP_nil⟩ (AllR.cons ⟨_, (by kernel_rfl), allP_nil⟩ (AllR.cons ⟨_, (by kernel_rfl), allP_nil⟩ (AllR.cons ⟨_, (by kernel_rfl), allP_nil⟩ AllR.nil)))))))))))))))))))))))))))))))) (by kernel_rfl) ?_
            refine W_cond (b := false) (by kernel_rfl) (fun hb => by cases hb) (fun _ => ?_)
            refine W_co [] [1, 5] [0] (s' := ⟨[(1, .c (.wh 0)), (5, .c (.s (.b r13)))], [], [⟨(.ro false), 5, 1, l1.length, .b l1⟩]⟩) (by kernel_rfl) (W_skip ?_)
            refine W_seq ?_
            obtain ⟨r65, g74, h⟩ := bind_some' h
            refine W_reg hT (ftL_cons (k := 1) (f := 26) (F := (pReadBits_ct n r65)) (pReadBits_ok n r65) (fun _ _ => True.intro) ftL_nil) [] [] [1, 5, 9, 10] [0, 2, 1] (s' := ⟨[(1, .c (.wh 0)), (5, .c (.s (.b r13))), (9, .c (.pt 1 0)), (10, .c (.s (.er 31 .i64 r65.2.2)))], [], [⟨(.ro false), 5, 1, l1.length, .b l1⟩, ⟨.blk, 45, 1, 2, .c [.wh 2, .s (.k .i64 r65.2.1)]⟩, ⟨.row, 5, 1, r65.1.length, .b r65.1⟩]⟩) (by kernel_rfl) (allP_cons.2 ⟨g74, allP_nil⟩) ?_
            refine W_seq ?_
            refine W_seq ?_
            refine W_reg hT ftL_nil [] [] [1, 5, 9, 10, 70] [0, 1, 2] (s' := ⟨[(1, .c (.wh 0)), (5, .c (.s (.b r13))), (9, .c (.pt 1 0)), (10, .c (.s (.er 31 .i64 r65.2.2))), (70, .c (.s (.b (((l1.length : Nat) : Int) == 0))))], [], [⟨(.ro false), 5, 1, l1.length, .b l1⟩, ⟨.blk, 45, 1, 2, .c [.wh 2, .s (.k .i64 r65.2.1)]⟩, ⟨.row, 5, 1, r65.1.length, .b r65.1⟩]⟩) (by kernel_rfl) allP_nil ?_
            refine W_cond (b := (((l1.length : Nat) : Int) == 0)) (by kernel_rfl) (fun g92 => ?_) (fun g92 => ?_)
            · replace h := bif_t h g92
              refine W_seq ?_
              rcases Bool.eq_false_or_eq_true r13 with g75 | g75
              · replace h := bif_t h g75
                obtain ⟨g76, h⟩ := gd_some h
                rcases Bool.eq_false_or_eq_true (r65.2.2 == (some 2)) with g77 | g77
                · replace h := bif_t h g77
                  rcases Bool.eq_false_or_eq_true (((r65.1.length : Nat) : Int) == 0) with g78 | g78
                  · replace h := bif_t h g78
                    refine W_reg hT ftL_nil [(1, true), (6, true), (12, true)] [] [4] [] (s' := ⟨[(4, .c (.s (.b (r65.2.1 == 0))))], [], []⟩) (by kernel_rfl) (allP_cons.2 ⟨g75, (allP_cons.2 ⟨g76, (allP_cons.2 ⟨g77, (allP_cons.2 ⟨g78, allP_nil⟩)⟩)⟩)⟩) ?_
                    refine W_co [] [4] [] (s' := (lBits_R (r65.2.1 == 0))) (by kernel_rfl) (W_ret ?_)
                    exact ⟨.inl rfl, by cases h; rfl⟩
                  · replace h := bif_f h g78
                    refine W_reg hT ftL_nil [(1, true), (6, true), (12, false)] [] [4] [] (s' := ⟨[(4, .c (.s (.b false)))], [], []⟩) (by kernel_rfl) (allP_cons.2 ⟨g75, (allP_cons.2 ⟨g76, (allP_cons.2 ⟨g77, (allP_cons.2 ⟨g78, allP_nil⟩)⟩)⟩)⟩) ?_
                    refine W_co [] [4] [] (s' := (lBits_R false)) (by kernel_rfl) (W_ret ?_)
                    exact ⟨.inl rfl, by cases h; rfl⟩
                · replace h := bif_f h g77
                  refine W_reg hT ftL_nil [(1, true), (6, false)] [] [4] [] (s' := ⟨[(4, .c (.s (.b false)))], [], []⟩) (by kernel_rfl) (allP_cons.2 ⟨g75, (allP_cons.2 ⟨g76, (allP_cons.2 ⟨g77, allP_nil⟩)⟩)⟩) ?_
                  refine W_co [] [4] [] (s' := (lBits_R false)) (by kernel_rfl) (W_ret ?_)
                  exact ⟨.inl rfl, by cases h; rfl⟩
              · replace h := bif_f h g75
                refine W_reg hT ftL_nil [(1, false)] [] [4] [] (s' := ⟨[(4, .c (.s (.b false)))], [], []⟩) (by kernel_rfl) (allP_cons.2 ⟨g75, allP_nil⟩) ?_
                refine W_co [] [4] [] (s' := (lBits_R false)) (by kernel_rfl) (W_ret ?_)
                exact ⟨.inl rfl, by cases h; rfl⟩
            · replace h := bif_f h g92
              refine W_co [] [1, 5, 9, 10] [0, 1, 2] (s' := ⟨[(1, .c (.wh 0)), (5, .c (.s (.b r13))), (9, .c (.pt 1 0)), (10, .c (.s (.er 31 .i64 r65.2.2)))], [], [⟨(.ro false), 5, 1, l1.length, .b l1⟩, ⟨.blk, 45, 1, 2, .c [.wh 2, .s (.k .i64 r65.2.1)]⟩, ⟨.row, 5, 1, r65.1.length, .b r65.1⟩]⟩) (by kernel_rfl) (W_skip ?_)
              refine W_seq ?_
              obtain ⟨g79, h⟩ := gd_some h
              obtain ⟨g80, h⟩ := gd_some h
              obtain ⟨g81, h⟩ := gd_some h
              obtain ⟨g82, h⟩ := gd_some h
              refine W_regD hT ftL_nil (by kernel_rfl) 8 [] [(5, false), (9, false), (10, false), (11, false), (94, false)] [] [5, 9, 10, 11] [1, 2, 3, 0] (s' := ⟨[(5, .c (.s (.b r13))), (9, .c (.pt 0 0)), (10, .c (.s (.er 31 .i64 r65.2.2))), (11, .c (.pt 2 0))], [], [⟨.blk, 45, 1, 2, .c [.wh 1, .s (.k .i64 r65.2.1)]⟩, ⟨.row, 5, 1, r65.1.length, .b r65.1⟩, ⟨.blk, 45, 1, 2, .c [.sl 3 1 (l1.length - 1), .s (.k .i64 (((l1.getD 0 0).toNat : Nat) : Int))]⟩, ⟨(.ro false), 5, 1, l1.length, .b l1⟩]⟩) (by kernel_rfl) (by kernel_rfl) (allP_cons.2 ⟨g79, (allP_cons.2 ⟨g80, (allP_cons.2 ⟨g81, (allP_cons.2 ⟨g82, allP_nil⟩)⟩)⟩)⟩) ?_
              refine W_seq ?_
              obtain ⟨r96, g83, h⟩ := bind_some' h
              refine W_reg hT (ftL_cons (k := 1) (f := 25) (F := (rBits_ct n r96)) (rBits_ok n r96) (fun _ _ => True.intro) ftL_nil) [] [] [5, 9, 10, 11, 12] [0, 1, 2, 3] (s' := ⟨[(5, .c (.s (.b r13))), (9, .c (.pt 0 0)), (10, .c (.s (.er 31 .i64 r65.2.2))), (11, .c (.pt 2 0)), (12, .c (.s (.b r96)))], [], [⟨.blk, 45, 1, 2, .c [.wh 1, .s (.k .i64 r65.2.1)]⟩, ⟨.row, 5, 1, r65.1.length, .b r65.1⟩, ⟨.blk, 45, 1, 2, .c [.sl 3 1 (l1.length - 1), .s (.k .i64 (((l1.getD 0 0).toNat : Nat) : Int))]⟩, ⟨(.ro false), 5, 1, l1.length, .b l1⟩]⟩) (by kernel_rfl) (allP_cons.2 ⟨g83, allP_nil⟩) ?_
              refine W_seq ?_
              refine W_seq ?_
              refine W_reg hT ftL_nil [] [] [5, 9, 10, 11, 98] [0, 1, 2, 3] (s' := ⟨[(5, .c (.s (.b r13))), (9, .c (.pt 0 0)), (10, .c (.s (.er 31 .i64 r65.2.2))), (11, .c (.pt 2 0)), (98, .c (.s (.b (!r96))))], [], [⟨.blk, 45, 1, 2, .c [.wh 1, .s (.k .i64 r65.2.1)]⟩, ⟨.row, 5, 1, r65.1.length, .b r65.1⟩, ⟨.blk, 45, 1, 2, .c [.sl 3 1 (l1.length - 1), .s (.k .i64 (((l1.getD 0 0).toNat : Nat) : Int))]⟩, ⟨(.ro false), 5, 1, l1.length, .b l1⟩]⟩) (by kernel_rfl) allP_nil ?_
              refine W_cond (b := (!r96)) (by kernel_rfl) (fun g91 => ?_) (fun g91 => ?_)
              · replace h := bif_t h g91
                refine W_seq ?_
                rcases Bool.eq_false_or_eq_true r13 with g84 | g84
                · replace h := bif_t h g84
                  obtain ⟨g85, h⟩ := gd_some h
                  rcases Bool.eq_false_or_eq_true (r65.2.2 == (some 2)) with g86 | g86
                  · replace h := bif_t h g86
                    rcases Bool.eq_false_or_eq_true (((r65.1.length : Nat) : Int) == 0) with g87 | g87
                    · replace h := bif_t h g87
                      refine W_reg hT ftL_nil [(1, true), (6, true), (12, true)] [] [4] [] (s' := ⟨[(4, .c (.s (.b (r65.2.1 == 0))))], [], []⟩) (by kernel_rfl) (allP_cons.2 ⟨g84, (allP_cons.2 ⟨g85, (allP_cons.2 ⟨g86, (allP_cons.2 ⟨g87, allP_nil⟩)⟩)⟩)⟩) ?_
                      refine W_co [] [4] [] (s' := (lBits_R (r65.2.1 == 0))) (by kernel_rfl) (W_ret ?_)
                      exact ⟨.inl rfl, by cases h; rfl⟩
                    · replace h := bif_f h g87
                      refine W_reg hT ftL_nil [(1, true), (6, true), (12, false)] [] [4] [] (s' := ⟨[(4, .c (.s (.b false)))], [], []⟩) (by kernel_rfl) (allP_cons.2 ⟨g84, (allP_cons.2 ⟨g85, (allP_cons.2 ⟨g86, (allP_cons.2 ⟨g87, allP_nil⟩)⟩)⟩)⟩) ?_
                      refine W_co [] [4] [] (s' := (lBits_R false)) (by kernel_rfl) (W_ret ?_)
                      exact ⟨.inl rfl, by cases h; rfl⟩
                  · replace h := bif_f h g86
                    refine W_reg hT ftL_nil [(1, true), (6, false)] [] [4] [] (s' := ⟨[(4, .c (.s (.b false)))], [], []⟩) (by kernel_rfl) (allP_cons.2 ⟨g84, (allP_cons.2 ⟨g85, (allP_cons.2 ⟨g86, allP_nil⟩)⟩)⟩) ?_
                    refine W_co [] [4] [] (s' := (lBits_R false)) (by kernel_rfl) (W_ret ?_)
                    exact ⟨.inl rfl, by cases h; rfl⟩
                · replace h := bif_f h g84
                  refine W_reg hT ftL_nil [(1, false)] [] [4] [] (s' := ⟨[(4, .c (.s (.b false)))], [], []⟩) (by kernel_rfl) (allP_cons.2 ⟨g84, allP_nil⟩) ?_
                  refine W_co [] [4] [] (s' := (lBits_R false)) (by kernel_rfl) (W_ret ?_)
                  exact ⟨.inl rfl, by cases h; rfl⟩
              · replace h := bif_f h g91
                refine W_co [] [5, 9, 10, 11] [0, 1, 2, 3] (s' := ⟨[(5, .c (.s (.b r13))), (9, .c (.pt 0 0)), (10, .c (.s (.er 31 .i64 r65.2.2))), (11, .c (.pt 2 0))], [], [⟨.blk, 45, 1, 2, .c [.wh 1, .s (.k .i64 r65.2.1)]⟩, ⟨.row, 5, 1, r65.1.length, .b r65.1⟩, ⟨.blk, 45, 1, 2, .c [.sl 3 1 (l1.length - 1), .s (.k .i64 (((l1.getD 0 0).toNat : Nat) : Int))]⟩, ⟨(.ro false), 5, 1, l1.length, .b l1⟩]⟩) (by kernel_rfl) (W_skip ?_)
                refine W_seq ?_
                rcases Bool.eq_false_or_eq_true r13 with g88 | g88
                · replace h := bif_t h g88
                  rcases Bool.eq_false_or_eq_true ((r65.2.2).isNone) with g89 | g89
                  · replace h := bif_t h g89
                    rcases Bool.eq_false_or_eq_true (r65.1 == ((l1.drop 1).take (l1.length - 1))) with g90 | g90
                    · replace h := bif_t h g90
                      refine W_reg hT ftL_nil [(1, true), (5, true), (14, true)] [] [4] [] (s' := ⟨[(4, .c (.s (.b (r65.2.1 == (((l1.getD 0 0).toNat : Nat) : Int)))))], [], []⟩) (by kernel_rfl) (allP_cons.2 ⟨g88, (allP_cons.2 ⟨g89, (allP_cons.2 ⟨g90, allP_nil⟩)⟩)⟩) ?_
                      refine W_co [] [4] [] (s' := (lBits_R (r65.2.1 == (((l1.getD 0 0).toNat : Nat) : Int)))) (by kernel_rfl) (W_ret ?_)
                      exact ⟨.inl rfl, by cases h; rfl⟩
                    · replace h := bif_f h g90
                      refine W_reg hT ftL_nil [(1, true), (5, true), (14, false)] [] [4] [] (s' := ⟨[(4, .c (.s (.b false)))], [], []⟩) (by kernel_rfl) (allP_cons.2 ⟨g88, (allP_cons.2 ⟨g89, (allP_cons.2 ⟨g90, allP_nil⟩)⟩)⟩) ?_
                      refine W_co [] [4] [] (s' := (lBits_R false)) (by kernel_rfl) (W_ret ?_)
                      exact ⟨.inl rfl, by cases h; rfl⟩
                  · replace h := bif_f h g89
                    refine W_reg hT ftL_nil [(1, true), (5, false)] [] [4] [] (s' := ⟨[(4, .c (.s (.b false)))], [], []⟩) (by kernel_rfl) (allP_cons.2 ⟨g88, (allP_cons.2 ⟨g89, allP_nil⟩)⟩) ?_
                    refine W_co [] [4] [] (s' := (lBits_R false)) (by kernel_rfl) (W_ret ?_)
                    exact ⟨.inl rfl, by cases h; rfl⟩
                · replace h := bif_f h g88
                  refine W_reg hT ftL_nil [(1, false)] [] [4] [] (s' := ⟨[(4, .c (.s (.b false)))], [], []⟩) (by kernel_rfl) (allP_cons.2 ⟨g88, allP_nil⟩) ?_
                  refine W_co [] [4] [] (s' := (lBits_R false)) (by kernel_rfl) (W_ret ?_)
                  exact ⟨.inl rfl, by cases h; rfl⟩
  · rintro e s' ⟨he, rfl⟩
    refine ⟨he, fun a' w' hr => ?_⟩
    exact retS_ok tabO_px hr (rs := [.tmp 4]) rfl (objs := []) (by kernel_rfl)
end Go.Proofs.Ytliilihbnhdemaa
end
section
set_option linter.unusedVariables false
set_option linter.unusedSimpArgs false
namespace Go.Sx
open Go Go.RowKit Go.Ch Go.Proofs.Ytliilihbnhdemaa
def bitsOk (b : List UInt8) (k : Int) : Bool := if 0 ≤ k ∧ k ≤ 7 ∧ b ≠ [] then (b.getD (b.length - 1) 0).toNat % 2 ^ k.toNat == 0 else k == 0
theorem mask_all : ∀ (i : Fin 256) (k : Fin 8), ((UInt8.ofNat i.val &&& (shl8 1 (k.val : Int) - 1)) == 0) = (i.val % 2 ^ k.val == 0) := by decide +kernel
theorem mask_is (x : UInt8) (k : Nat) (hk : k ≤ 7) : ((x &&& (shl8 1 (k : Int) - 1)) == 0) = (x.toNat % 2 ^ k == 0) := by
  have := mask_all ⟨x.toNat, x.toNat_lt⟩ ⟨k, by omega⟩
  simpa using this
theorem pfits_is (n : Nat) (b : List UInt8) (k : Int) (hb : b.length ≤ 1000000) : pfits n b k = some (bitsOk b k) := by
  unfold pfits bitsOk
  by_cases h1 : k < 0
  · rw [ite_t (decide_eq_true h1), if_neg (by omega)]
  · rw [ite_f (decide_eq_false h1)]
    by_cases h2 : 7 < k
    · rw [ite_t (decide_eq_true h2), if_neg (by omega)]
    · rw [ite_f (decide_eq_false h2)]
      cases b with
      | nil => rw [ite_t (by rfl), if_neg (by simp)]
      | cons x l =>
        rw [ite_f (by simp; omega), gd_pos (okI64 (by omega) (by omega)), gd_pos (by simp only [List.length_cons]; omega), gd_pos (by omega), gd_pos (by omega), if_pos ⟨by omega, by omega, by simp⟩]
        have e : (((((x :: l).length : Nat) : Int) - 1).toNat) = (x :: l).length - 1 := by omega
        rw [e]
        obtain ⟨q, rfl⟩ := Int.eq_ofNat_of_zero_le (show 0 ≤ k by omega)
        rw [mask_is _ q (by omega)]; rfl
theorem rBits_l1_is (n : Nat) (b : List UInt8) (k : Nat) (hk : k ≤ 7) : ∀ (m i fu : Nat), i + m = k → m < fu → rBits_l1 n b (k : Int) fu ((2 ^ i : Nat) : Int) (i : Int) = some ((b.getD ((((b.length : Nat) : Int) - 1).toNat) 0).toNat % 2 ^ k == 0) := by
  intro m
  have hp : ∀ i, i ≤ 7 → 0 < 2 ^ i ∧ 2 ^ i ≤ 128 := fun i hi => ⟨Nat.pow_pos (by decide), (Nat.pow_le_pow_right (by decide) hi : 2 ^ i ≤ 2 ^ 7)⟩
  induction m with
  | zero =>
    intro i fu hi hf
    obtain rfl : i = k := by omega
    have := hp i hk
    cases fu with
    | zero => omega
    | succ fu =>
      rw [rBits_l1, ite_f (by simp), gd_pos (by omega)]
      generalize (b.getD ((((b.length : Nat) : Int) - 1).toNat) 0).toNat = x
      rw [Int.tmod_eq_emod_of_nonneg (by omega), ← Int.natCast_emod]
      congr 1
      generalize x % 2 ^ i = y
      rw [Bool.eq_iff_iff]; simp only [beq_iff_eq]; omega
  | succ m ih =>
    intro i fu hi hf
    have := hp i (by omega)
    cases fu with
    | zero => omega
    | succ fu =>
      rw [rBits_l1, ite_t (by simp; omega), gd_pos (okI64 (by omega) (by omega)), gd_pos (okI64 (by omega) (by omega)), show (((2 ^ i : Nat) : Int) * 2) = ((2 ^ (i + 1) : Nat) : Int) by rw [Nat.pow_succ]; omega]
      exact ih (i + 1) fu (by omega) (by omega)
theorem rBits_is {n : Nat} (hn : 100 ≤ n) (b : List UInt8) (k : Int) (hb : b.length ≤ 1000000) : rBits n b k = some (bitsOk b k) := by
  unfold rBits bitsOk
  cases b with
  | nil => rw [ite_t (by rfl), if_neg (by simp)]
  | cons x l =>
    rw [ite_f (by simp; omega)]
    by_cases h1 : k < 0
    · rw [ite_t (decide_eq_true h1), if_neg (by omega)]
      congr 1; symm; simp; omega
    · rw [ite_f (decide_eq_false h1)]
      by_cases h2 : 7 < k
      · rw [ite_t (decide_eq_true h2), if_neg (by omega)]
        congr 1; symm; simp; omega
      · rw [ite_f (decide_eq_false h2), gd_pos (okI64 (by omega) (by omega)), gd_pos (by simp only [List.length_cons]; omega), gd_pos (by omega), if_pos ⟨by omega, by omega, by simp⟩]
        obtain ⟨q, rfl⟩ := Int.eq_ofNat_of_zero_le (show 0 ≤ k by omega)
        have := rBits_l1_is n (x :: l) q (by omega) q 0 n (by omega) (by omega)
        have e : (((((x :: l).length : Nat) : Int) - 1).toNat) = (x :: l).length - 1 := by omega
        rw [e] at this
        exact this
theorem pBits_is (n : Nat) (b : List UInt8) (k : Int) (hb : b.length ≤ 1000000) : pBits n b k = some (if bitsOk b k then ([UInt8.ofInt k] ++ b, none) else ([], some 1)) := by
  unfold pBits
  rw [pfits_is n b k hb, Option.bind_some]
  cases bitsOk b k with
  | true => rw [ite_f (by rfl), gd_pos (by unfold rmB; omega)]; rfl
  | false => rw [ite_t (by rfl)]; rfl
theorem pReadBits_is (n : Nat) (a : List UInt8) (ha : a.length ≤ 1000000) (h : a.length ≠ 0) : pReadBits n a = some (if bitsOk ((a.drop 1).take (a.length - 1)) (((a.getD 0 0).toNat : Nat) : Int) then ((a.drop 1).take (a.length - 1), (((a.getD 0 0).toNat : Nat) : Int), none) else ([], 0, some 2)) := by
  unfold pReadBits
  rw [ite_f (by simp only [beq_eq_false_iff_ne]; omega), gd_pos (by omega), gd_pos (by omega), gd_pos (by simp; omega), gd_pos (by omega), gd_pos (by omega), pfits_is n _ _ (by simp; omega), Option.bind_some]
  cases bitsOk ((a.drop 1).take (a.length - 1)) (((a.getD 0 0).toNat : Nat) : Int) with
  | true => rw [ite_f (by rfl)]; rfl
  | false => rw [ite_t (by rfl)]; rfl
theorem up8_x : pup 1000 = some true := by decide +kernel
theorem bits_tail (a1 : List UInt8) (h1 : a1.length ≤ 300) : ((pReadBits 1000 a1).bind fun r65 =>
bif (((a1.length : Nat) : Int) == 0) then
  bif true then
    gd (¬((r65.2.2 : Option Int) = none ∧ ((some 2) : Option Int) = none)) <|
    bif (r65.2.2 == (some 2)) then
      bif (((r65.1.length : Nat) : Int) == 0) then
        some (r65.2.1 == 0)
      else
        some false
    else
      some false
  else
    some false
else
  gd (0 ≤ (1 : Int)) <|
  gd ((1 : Int) ≤ ((a1.length : Nat) : Int)) <|
  gd (0 ≤ (0 : Int)) <|
  gd ((0 : Int) < ((a1.length : Nat) : Int)) <|
  (rBits 1000 ((a1.drop 1).take (a1.length - 1)) (((a1.getD 0 0).toNat : Nat) : Int)).bind fun r96 =>
  bif (!r96) then
    bif true then
      gd (¬((r65.2.2 : Option Int) = none ∧ ((some 2) : Option Int) = none)) <|
      bif (r65.2.2 == (some 2)) then
        bif (((r65.1.length : Nat) : Int) == 0) then
          some (r65.2.1 == 0)
        else
          some false
      else
        some false
    else
      some false
  else
    bif true then
      bif ((r65.2.2).isNone) then
        bif (r65.1 == ((a1.drop 1).take (a1.length - 1))) then
          some (r65.2.1 == (((a1.getD 0 0).toNat : Nat) : Int))
        else
          some false
      else
        some false
    else
      some false) = some true := by
  by_cases h : a1.length = 0
  · have : pReadBits 1000 a1 = some ([], 0, some 2) := by unfold pReadBits; rw [ite_t (by simp only [beq_iff_eq]; omega)]
    rw [this, Option.bind_some, ite_t (by simp only [beq_iff_eq]; omega), cond_true, gd_pos (by simp)]
    rfl
  · rw [pReadBits_is 1000 a1 (by omega) h, Option.bind_some, ite_f (by simp only [beq_eq_false_iff_ne]; omega), gd_pos (by omega), gd_pos (by omega), gd_pos (by omega), gd_pos (by omega), rBits_is (by decide) _ _ (by simp; omega), Option.bind_some]
    cases bitsOk ((a1.drop 1).take (a1.length - 1)) (((a1.getD 0 0).toNat : Nat) : Int) with
    | true => simp
    | false =>
      rw [ite_t (by rfl), cond_true, if_neg (by simp), gd_pos (by simp)]
      rfl
theorem lBits_is (b : List UInt8) (k : Int) (a1 : List UInt8) : lBits 1000 b k a1 = some true := by
  unfold lBits
  rw [up8_x, Option.bind_some]
  by_cases h0 : 300 < b.length
  · rw [ite_t (decide_eq_true (by omega))]
  · rw [ite_f (decide_eq_false (by omega))]
    by_cases h1 : 300 < a1.length
    · rw [ite_t (decide_eq_true (by omega))]
    · rw [ite_f (decide_eq_false (by omega)), pBits_is 1000 b k (by omega), Option.bind_some, rBits_is (by decide) b k (by omega), Option.bind_some]
      cases bitsOk b k with
      | true =>
        rw [ite_f (by rfl), cond_true, if_pos rfl, ite_f (by rfl), gd_pos (by unfold rmB; omega), ite_f (by simp)]
        exact bits_tail a1 (by omega)
      | false =>
        rw [ite_t (by rfl), if_neg (by simp), gd_pos (by simp), ite_f (by simp), ite_f (by rfl), cond_false]
        exact bits_tail a1 (by omega)
end Go.Sx
namespace Go.Proofs.Ytliilihbnhdemaa
open Go.RowKit Go.Ch Go.Sx
theorem primBits_c (w : World) (B0 : Nat) (v0 : Value) (n0 : Int) (hn0 : (Lit.int .i64 n0).wf = true) (l0 : List UInt8) (hv0 : Sl w B0 v0 (l0.map bU)) (B1 : Nat) (v1 : Value) (l1 : List UInt8) (hv1 : Sl w B1 v1 (l1.map bU)) :
    Calls Try.prog 6 #[.agg #[v0, .int .i64 n0], v1] w (Ret fun v' w' => Ext w w' ∧ v' = .bool true) := by
  obtain ⟨p0, a0, b0⟩ := in_b hv0 5
  obtain ⟨p1, a1, b1⟩ := in_b hv1 5
  exact law_of (lBits_ok 1000 true) (args := [.g 2 (.c [.wh 0, .s (.k .i64 n0)]), .c (.wh 1)]) (H := [⟨.ro false, 5, 1, l0.length, .b l0⟩, ⟨.ro false, 5, 1, l1.length, .b l1⟩]) (ρ := plL [p0, p1]) (vals := [.agg #[v0, .int .i64 n0], v1]) rfl (allP_cons.2 ⟨lBits_is l0 n0 l1, allP_nil⟩) trivial (hpL (ps := [p0, p1]) (F2.cons b0 (F2.cons b1 F2.nil))) (F2.cons ⟨[v0, .int .i64 n0], (F2.cons a0 (F2.cons rfl F2.nil)), rfl, rfl⟩ (F2.cons a1 F2.nil))
end Go.Proofs.Ytliilihbnhdemaa
end
