import Derived.Test.YtamddohbpdbdmaaDoorZ4
import Derived.Test.YtamddohbpdbdmaaDoorProg
section
set_option linter.unusedVariables false
set_option linter.unusedSimpArgs false
namespace Go.Proofs.YtamddohbpdbdmaaDoor
open Go.RowKit Go.Ch Go.Sx

def tabL_mvlong : List (TypeId × Ti) := [(3, ⟨.int .i64, 1, 8, true, some [.int .i64]⟩),
  (5, ⟨.int .u8, 1, 1, true, some [.int .u8]⟩),
  (9, ⟨.str, 1, 16, true, some [.str]⟩),
  (22, ⟨.sl 5, 1, 24, false, some [.nils]⟩),
  (35, ⟨.ifc, 1, 16, true, some [.ifc]⟩)]
def tab_mvlong : Tab := fun t => (tabL_mvlong).lookup t
theorem tabE_mvlong : (tabL_mvlong.map fun p => tiOf Tryd.prog p.1) = tabL_mvlong.map fun p => some p.2 := by kernel_rfl
theorem tabO_mvlong : TabOk Tryd.prog tab_mvlong := tab_of tabE_mvlong

def lLong (n : Nat) (a0 : List UInt8) (a1 : List UInt8) (a2 : Int) (a3 : Int) (a4 : Int) : Option (Bool) :=
  (mup n).bind fun r21 =>
  (mcut n a0 500).bind fun r23 =>
  (mcut n a1 500).bind fun r25 =>
  (mMark n ((a0.drop 0).take r23.2) ((a1.drop 0).take r25.2)).bind fun r28 =>
  bif (decide ((64 : Int) < ((r23.2 : Nat) : Int))) then
    gd ((((a0.drop 0).take r23.2)).length ≤ 100000) <|
    (mMark n (digest consts begin8 ((a0.drop 0).take r23.2)) ((a1.drop 0).take r25.2)).bind fun r38 =>
    bif (r28 != r38) then
      some false
    else
      bif (decide (((r23.2 : Nat) : Int) < (64 : Int))) then
        gd (rmB (0 + r23.2) 1) <|
        gd (rmB ((([] ++ ((a0.drop 0).take r23.2)).length) + 1) 1) <|
        (mMark n (([] ++ ((a0.drop 0).take r23.2)) ++ [0]) ((a1.drop 0).take r25.2)).bind fun r54 =>
        bif (r28 != r54) then
          some false
        else
          bif (decide (a2 < (1 : Int))) then
            some r21
          else
            bif (decide ((6 : Int) < a2)) then
              some r21
            else
              bif (decide (a3 < (0 : Int))) then
                some r21
              else
                bif (decide (a4 < a3)) then
                  some r21
                else
                  bif (decide ((256 : Int) < a4)) then
                    some r21
                  else
                    (mDerive n ((a0.drop 0).take r23.2) ((a1.drop 0).take r25.2) a2 a3).bind fun r83 =>
                    (mDerive n ((a0.drop 0).take r23.2) ((a1.drop 0).take r25.2) a2 a4).bind fun r91 =>
                    (mBased n ((a0.drop 0).take r23.2) ((a1.drop 0).take r25.2) a2).bind fun r98 =>
                    gd (okI .i64 (a2 + 1)) <|
                    (mBased n ((a0.drop 0).take r23.2) ((a1.drop 0).take r25.2) (a2 + 1)).bind fun r106 =>
                    bif r21 then
                      bif ((r83.2.2).isNone) then
                        bif ((r91.2.2).isNone) then
                          bif ((r98.2).isNone) then
                            bif ((r106.2).isNone) then
                              bif (((r91.2.1 : Nat) : Int) == a4) then
                                gd (0 ≤ a3) <|
                                gd (a3 ≤ ((r91.2.1 : Nat) : Int)) <|
                                bif (((r83.1.drop 0).take r83.2.1) == ((r91.1.drop 0).take a3.toNat)) then
                                  gd ((r98.1).length ≤ 100000) <|
                                  some (r106.1 == (digest consts begin8 r98.1))
                                else
                                  some false
                              else
                                some false
                            else
                              some false
                          else
                            some false
                        else
                          some false
                      else
                        some false
                    else
                      some false
      else
        bif (decide (a2 < (1 : Int))) then
          some r21
        else
          bif (decide ((6 : Int) < a2)) then
            some r21
          else
            bif (decide (a3 < (0 : Int))) then
              some r21
            else
              bif (decide (a4 < a3)) then
                some r21
              else
                bif (decide ((256 : Int) < a4)) then
                  some r21
                else
                  (mDerive n ((a0.drop 0).take r23.2) ((a1.drop 0).take r25.2) a2 a3).bind fun r83 =>
                  (mDerive n ((a0.drop 0).take r23.2) ((a1.drop 0).take r25.2) a2 a4).bind fun r91 =>
                  (mBased n ((a0.drop 0).take r23.2) ((a1.drop 0).take r25.2) a2).bind fun r98 =>
                  gd (okI .i64 (a2 + 1)) <|
                  (mBased n ((a0.drop 0).take r23.2) ((a1.drop 0).take r25.2) (a2 + 1)).bind fun r106 =>
                  bif r21 then
                    bif ((r83.2.2).isNone) then
                      bif ((r91.2.2).isNone) then
                        bif ((r98.2).isNone) then
                          bif ((r106.2).isNone) then
                            bif (((r91.2.1 : Nat) : Int) == a4) then
                              gd (0 ≤ a3) <|
                              gd (a3 ≤ ((r91.2.1 : Nat) : Int)) <|
                              bif (((r83.1.drop 0).take r83.2.1) == ((r91.1.drop 0).take a3.toNat)) then
                                gd ((r98.1).length ≤ 100000) <|
                                some (r106.1 == (digest consts begin8 r98.1))
                              else
                                some false
                            else
                              some false
                          else
                            some false
                        else
                          some false
                      else
                        some false
                    else
                      some false
                  else
                    some false
  else
    bif (decide (((r23.2 : Nat) : Int) < (64 : Int))) then
      gd (rmB (0 + r23.2) 1) <|
      gd (rmB ((([] ++ ((a0.drop 0).take r23.2)).length) + 1) 1) <|
      (mMark n (([] ++ ((a0.drop 0).take r23.2)) ++ [0]) ((a1.drop 0).take r25.2)).bind fun r54 =>
      bif (r28 != r54) then
        some false
      else
        bif (decide (a2 < (1 : Int))) then
          some r21
        else
          bif (decide ((6 : Int) < a2)) then
            some r21
          else
            bif (decide (a3 < (0 : Int))) then
              some r21
            else
              bif (decide (a4 < a3)) then
                some r21
              else
                bif (decide ((256 : Int) < a4)) then
                  some r21
                else
                  (mDerive n ((a0.drop 0).take r23.2) ((a1.drop 0).take r25.2) a2 a3).bind fun r83 =>
                  (mDerive n ((a0.drop 0).take r23.2) ((a1.drop 0).take r25.2) a2 a4).bind fun r91 =>
                  (mBased n ((a0.drop 0).take r23.2) ((a1.drop 0).take r25.2) a2).bind fun r98 =>
                  gd (okI .i64 (a2 + 1)) <|
                  (mBased n ((a0.drop 0).take r23.2) ((a1.drop 0).take r25.2) (a2 + 1)).bind fun r106 =>
                  bif r21 then
                    bif ((r83.2.2).isNone) then
                      bif ((r91.2.2).isNone) then
                        bif ((r98.2).isNone) then
                          bif ((r106.2).isNone) then
                            bif (((r91.2.1 : Nat) : Int) == a4) then
                              gd (0 ≤ a3) <|
                              gd (a3 ≤ ((r91.2.1 : Nat) : Int)) <|
                              bif (((r83.1.drop 0).take r83.2.1) == ((r91.1.drop 0).take a3.toNat)) then
                                gd ((r98.1).length ≤ 100000) <|
                                some (r106.1 == (digest consts begin8 r98.1))
                              else
                                some false
                            else
                              some false
                          else
                            some false
                        else
                          some false
                      else
                        some false
                    else
                      some false
                  else
                    some false
    else
      bif (decide (a2 < (1 : Int))) then
        some r21
      else
        bif (decide ((6 : Int) < a2)) then
          some r21
        else
          bif (decide (a3 < (0 : Int))) then
            some r21
          else
            bif (decide (a4 < a3)) then
              some r21
            else
              bif (decide ((256 : Int) < a4)) then
                some r21
              else
                (mDerive n ((a0.drop 0).take r23.2) ((a1.drop 0).take r25.2) a2 a3).bind fun r83 =>
                (mDerive n ((a0.drop 0).take r23.2) ((a1.drop 0).take r25.2) a2 a4).bind fun r91 =>
                (mBased n ((a0.drop 0).take r23.2) ((a1.drop 0).take r25.2) a2).bind fun r98 =>
                gd (okI .i64 (a2 + 1)) <|
                (mBased n ((a0.drop 0).take r23.2) ((a1.drop 0).take r25.2) (a2 + 1)).bind fun r106 =>
                bif r21 then
                  bif ((r83.2.2).isNone) then
                    bif ((r91.2.2).isNone) then
                      bif ((r98.2).isNone) then
                        bif ((r106.2).isNone) then
                          bif (((r91.2.1 : Nat) : Int) == a4) then
                            gd (0 ≤ a3) <|
                            gd (a3 ≤ ((r91.2.1 : Nat) : Int)) <|
                            bif (((r83.1.drop 0).take r83.2.1) == ((r91.1.drop 0).take a3.toNat)) then
                              gd ((r98.1).length ≤ 100000) <|
                              some (r106.1 == (digest consts begin8 r98.1))
                            else
                              some false
                          else
                            some false
                        else
                          some false
                      else
                        some false
                    else
                      some false
                  else
                    some false
                else
                  some false

def lLong_R (r : Bool) : S := ⟨[(10, .c (.s (.b r)))], [], []⟩
def lLong_ct (n : Nat) (r : Bool) : Ct := fun args H => match args with
  | [x0, x1, x2, x3, x4] => (match aB H x0 with | some l0 => (match aB H x1 with | some l1 => (match aI x2 with | some l2 => (match aI x3 with | some l3 => (match aI x4 with | some l4 => some ([lLong n l0 l1 l2 l3 l4 = some r], shA H.length (.c (.s (.b r))), shH H.length []) | none => none) | none => none) | none => none) | none => none) | none => none)
  | _ => none
theorem lLong_ok (n : Nat) (r : Bool) : FnOk Tryd.prog GK 7 (lLong_ct n r) := by
  refine ⟨fun args H g av objs hF hg ρ w vals hG hp ha => ?_, _, Tryd.func7, by kernel_rfl, by kernel_rfl⟩
  obtain ⟨x0, x1, x2, x3, x4, rfl⟩ : ∃ x0 x1 x2 x3 x4, args = [x0, x1, x2, x3, x4] := by
    unfold lLong_ct at hF; split at hF
    · exact ⟨_, _, _, _, _, rfl⟩
    · cases hF
  cases e0 : aB H x0 with
  | none => simp only [lLong_ct, e0, reduceCtorEq] at hF
  | some l0 =>
  cases e1 : aB H x1 with
  | none => simp only [lLong_ct, e0, e1, reduceCtorEq] at hF
  | some l1 =>
  cases e2 : aI x2 with
  | none => simp only [lLong_ct, e0, e1, e2, reduceCtorEq] at hF
  | some l2 =>
  cases e3 : aI x3 with
  | none => simp only [lLong_ct, e0, e1, e2, e3, reduceCtorEq] at hF
  | some l3 =>
  cases e4 : aI x4 with
  | none => simp only [lLong_ct, e0, e1, e2, e3, e4, reduceCtorEq] at hF
  | some l4 =>
  simp only [lLong_ct, e0, e1, e2, e3, e4, Option.some.injEq, Prod.mk.injEq] at hF
  obtain ⟨rfl, rfl, rfl⟩ := hF
  obtain ⟨v0, vals, rfl, k0, ha⟩ := F2.inv ha
  obtain ⟨v1, vals, rfl, k1, ha⟩ := F2.inv ha
  obtain ⟨v2, vals, rfl, k2, ha⟩ := F2.inv ha
  obtain ⟨v3, vals, rfl, k3, ha⟩ := F2.inv ha
  obtain ⟨v4, vals, rfl, k4, ha⟩ := F2.inv ha
  obtain rfl := F2.inv0 ha
  have hI : ∀ w', Kp (noB (fun _ => undef)) w w' → GK w' := fun _ hk => GK.keep hk.below hG
  have h : lLong n l0 l1 l2 l3 l4 = some r := hg
  obtain ⟨p0, s0, o0⟩ := aB_ok hp e0 (k0) 5
  obtain ⟨p1, s1, o1⟩ := aB_ok hp e1 (k1) 5
  have s2 := aI_ok e2 (k2)
  have s3 := aI_ok e3 (k3)
  have s4 := aI_ok e4 (k4)
  have hR0 := rel0 (gv := (fun _ => undef)) (n := 149) (w := w) (args := [.c (.wh 0), .c (.wh 1), .c (.s (.k .i64 l2)), .c (.s (.k .i64 l3)), .c (.s (.k .i64 l4))]) (H := [⟨.ro false, 5, 1, l0.length, .b l0⟩, ⟨.ro false, 5, 1, l1.length, .b l1⟩]) (gl := []) (hpL (ps := [p0, p1]) (F2.cons o0 (F2.cons o1 F2.nil))) (allRo_ok rfl) (F2.cons s0 (F2.cons s1 (F2.cons s2 (F2.cons s3 (F2.cons s4 F2.nil))))) GlR.nil (by simp)
  clear ha hp hg k0 k1 k2 k3 k4 e0 e1 e2 e3 e4
  refine calls_W Tryd.func7 rfl rfl hR0 (Q := fun e s => (e = .ret ∨ e = .normal) ∧ s = lLong_R r) ?_ ?_
  · clear hR0
    unfold lLong at h
    have hT := tabO_mvlong
    refine W_seq ?_
    refine W_reg hT ftL_nil [] [] [0, 1, 2, 3, 4] [0, 1] (s' := ⟨[(0, .c (.wh 0)), (1, .c (.wh 1)), (2, .c (.s (.k .i64 l2))), (3, .c (.s (.k .i64 l3))), (4, .c (.s (.k .i64 l4)))], [], [⟨(.ro false), 5, 1, l0.length, .b l0⟩, ⟨(.ro false), 5, 1, l1.length, .b l1⟩]⟩) (by kernel_rfl) allP_nil ?_
    refine W_seq ?_
    obtain ⟨r21, g1, h⟩ := bind_some' h
    refine W_reg hT (ftL_cons (k := 0) (f := 9) (F := (mup_ct n r21)) (mup_ok n r21) hI ftL_nil) [] [] [0, 1, 2, 3, 4, 11] [0, 1] (s' := ⟨[(0, .c (.wh 0)), (1, .c (.wh 1)), (2, .c (.s (.k .i64 l2))), (3, .c (.s (.k .i64 l3))), (4, .c (.s (.k .i64 l4))), (11, .c (.s (.b r21)))], [], [⟨(.ro false), 5, 1, l0.length, .b l0⟩, ⟨(.ro false), 5, 1, l1.length, .b l1⟩]⟩) (by kernel_rfl) (allP_cons.2 ⟨g1, allP_nil⟩) ?_
    refine W_seq ?_
    obtain ⟨r23, g2, h⟩ := bind_some' h
    refine W_reg hT (ftL_cons (k := 1) (f := 10) (F := (mcut_ct n r23)) (mcut_ok n r23) (fun _ _ => True.intro) ftL_nil) [] [] [0, 1, 2, 3, 4, 11] [0, 1] (s' := ⟨[(0, .c (.sl 0 0 r23.2)), (1, .c (.wh 1)), (2, .c (.s (.k .i64 l2))), (3, .c (.s (.k .i64 l3))), (4, .c (.s (.k .i64 l4))), (11, .c (.s (.b r21)))], [], [⟨(.ro false), 5, 1, l0.length, .b l0⟩, ⟨(.ro false), 5, 1, l1.length, .b l1⟩]⟩) (by kernel_rfl) (allP_cons.2 ⟨g2, allP_nil⟩) ?_
    refine W_seq ?_
    obtain ⟨r25, g3, h⟩ := bind_some' h
    refine W_reg hT (ftL_cons (k := 1) (f := 10) (F := (mcut_ct n r25)) (mcut_ok n r25) (fun _ _ => True.intro) ftL_nil) [] [] [0, 1, 2, 3, 4, 11] [0, 1] (s' := ⟨[(0, .c (.sl 0 0 r23.2)), (1, .c (.sl 1 0 r25.2)), (2, .c (.s (.k .i64 l2))), (3, .c (.s (.k .i64 l3))), (4, .c (.s (.k .i64 l4))), (11, .c (.s (.b r21)))], [], [⟨(.ro false), 5, 1, l0.length, .b l0⟩, ⟨(.ro false), 5, 1, l1.length, .b l1⟩]⟩) (by kernel_rfl) (allP_cons.2 ⟨g3, allP_nil⟩) ?_
    refine W_seq ?_
    obtain ⟨r28, g4, h⟩ := bind_some' h
    refine W_reg hT (ftL_cons (k := 2) (f := 11) (F := (mMark_ct n r28)) (mMark_ok n r28) hI ftL_nil) [] [] [0, 1, 2, 3, 4, 11, 12] [0, 1, 2] (s' := ⟨[(0, .c (.sl 0 0 r23.2)), (1, .c (.sl 1 0 r25.2)), (2, .c (.s (.k .i64 l2))), (3, .c (.s (.k .i64 l3))), (4, .c (.s (.k .i64 l4))), (11, .c (.s (.b r21))), (12, .c (.wh 2))], [], [⟨(.ro false), 5, 1, l0.length, .b l0⟩, ⟨(.ro false), 5, 1, l1.length, .b l1⟩, ⟨.row, 5, 1, r28.length, .b r28⟩]⟩) (by kernel_rfl) (allP_cons.2 ⟨g4, allP_nil⟩) ?_
    refine W_seq ?_
    refine W_seq ?_
    rcases Bool.eq_false_or_eq_true (decide ((64 : Int) < ((r23.2 : Nat) : Int))) with g5 | g5
    · replace h := bif_t h g5
      obtain ⟨g6, h⟩ := gd_some h
      obtain ⟨r38, g7, h⟩ := bind_some' h
      refine W_regD hT (ftL_cons (k := 7) (f := 19) (F := sum_ct) sum_h hI (ftL_cons (k := 9) (f := 11) (F := (mMark_ct n r38)) (mMark_ok n r38) hI ftL_nil)) (by kernel_rfl) 11 [(3, true)] [(0, false), (1, false), (2, false), (3, false), (4, false), (11, false), (12, false), (32, false), (34, false), (39, false)] [] [0, 1, 2, 3, 4, 11, 12, 41] [0, 1, 2] (s' := ⟨[(0, .c (.sl 0 0 r23.2)), (1, .c (.sl 1 0 r25.2)), (2, .c (.s (.k .i64 l2))), (3, .c (.s (.k .i64 l3))), (4, .c (.s (.k .i64 l4))), (11, .c (.s (.b r21))), (12, .c (.wh 2)), (41, .c (.s (.b (r28 != r38))))], [], [⟨(.ro false), 5, 1, l0.length, .b l0⟩, ⟨(.ro false), 5, 1, l1.length, .b l1⟩, ⟨.row, 5, 1, r28.length, .b r28⟩]⟩) (by kernel_rfl) (by kernel_rfl) (allP_cons.2 ⟨g5, (allP_cons.2 ⟨g6, (allP_cons.2 ⟨g7, allP_nil⟩)⟩)⟩) ?_
      refine W_cond (b := (r28 != r38)) (by kernel_rfl) (fun g53 => ?_) (fun g53 => ?_)
      · replace h := bif_t h g53
        refine W_seq ?_
        refine W_reg hT ftL_nil [] [] [10] [] (s' := ⟨[(10, .c (.s (.b false)))], [], []⟩) (by kernel_rfl) allP_nil ?_
        refine W_co [] [10] [] (s' := (lLong_R false)) (by kernel_rfl) (W_ret ?_)
        exact ⟨.inl rfl, by cases h; rfl⟩
      · replace h := bif_f h g53
        refine W_co [] [0, 1, 2, 3, 4, 11, 12] [0, 1, 2] (s' := ⟨[(0, .c (.sl 0 0 r23.2)), (1, .c (.sl 1 0 r25.2)), (2, .c (.s (.k .i64 l2))), (3, .c (.s (.k .i64 l3))), (4, .c (.s (.k .i64 l4))), (11, .c (.s (.b r21))), (12, .c (.wh 2))], [], [⟨(.ro false), 5, 1, l0.length, .b l0⟩, ⟨(.ro false), 5, 1, l1.length, .b l1⟩, ⟨.row, 5, 1, r28.length, .b r28⟩]⟩) (by kernel_rfl) (W_skip ?_)
        refine W_seq ?_
        refine W_seq ?_
        rcases Bool.eq_false_or_eq_true (decide (((r23.2 : Nat) : Int) < (64 : Int))) with g8 | g8
        · replace h := bif_t h g8
          obtain ⟨g9, h⟩ := gd_some h
          obtain ⟨g10, h⟩ := gd_some h
          obtain ⟨r54, g11, h⟩ := bind_some' h
          refine W_regG hT (ftL_cons (k := 12) (f := 11) (F := (mMark_ct n r54)) (mMark_ok n r54) hI ftL_nil) (by kernel_rfl) [(3, true)] [0, 1, 2, 3, 4, 5, 7, 11, 13, 14, 15] [[0, 1, 2, 3, 4, 5, 7, 11], [0, 1, 2, 3, 4, 5, 6, 7, 11], [0, 1, 2, 3, 4, 5, 7, 9, 11], [0, 1, 2, 3, 4, 5, 6, 7, 8, 11], [0, 1, 2, 3, 4, 5, 6, 7, 9, 11], [0, 1, 2, 3, 4, 5, 6, 7, 8, 9, 11], [0, 1, 2, 3, 4, 5, 6, 7, 8, 9, 10, 11], [0, 1, 2, 3, 4, 5, 6, 7, 8, 9, 10, 11, 12, 13, 14, 15]] [⟨[(0, .c (.sl 0 0 r23.2)), (1, .c (.sl 1 0 r25.2)), (2, .c (.s (.k .i64 l2))), (3, .c (.s (.k .i64 l3))), (4, .c (.s (.k .i64 l4))), (11, .c (.s (.b r21))), (12, .c (.wh 2)), (42, .c (.sl 0 0 r23.2)), (43, .c (.s (.k .i64 ((r23.2 : Nat) : Int)))), (44, .c (.s (.b (decide (((r23.2 : Nat) : Int) < (64 : Int)))))), (45, .c (.s (.b true))), (46, .c (.wh 2)), (47, .c (.s (.str r28))), (49, .c (.sl 0 0 r23.2)), (53, .c (.sl 1 0 r25.2))], [], [⟨(.ro false), 5, 1, l0.length, .b l0⟩, ⟨(.ro false), 5, 1, l1.length, .b l1⟩, ⟨.row, 5, 1, r28.length, .b r28⟩]⟩, ⟨[(0, .c (.sl 0 0 r23.2)), (1, .c (.sl 1 0 r25.2)), (2, .c (.s (.k .i64 l2))), (3, .c (.s (.k .i64 l3))), (4, .c (.s (.k .i64 l4))), (11, .c (.s (.b r21))), (12, .c (.wh 2)), (45, .c (.s (.b true))), (46, .c (.wh 2)), (47, .c (.s (.str r28))), (48, .c (.wh 3)), (49, .c (.sl 0 0 r23.2)), (53, .c (.sl 1 0 r25.2))], [], [⟨(.ro false), 5, 1, l0.length, .b l0⟩, ⟨(.ro false), 5, 1, l1.length, .b l1⟩, ⟨.row, 5, 1, r28.length, .b r28⟩, ⟨.row, 5, 1, 0, .b []⟩]⟩, ⟨[(0, .c (.sl 0 0 r23.2)), (1, .c (.sl 1 0 r25.2)), (2, .c (.s (.k .i64 l2))), (3, .c (.s (.k .i64 l3))), (4, .c (.s (.k .i64 l4))), (11, .c (.s (.b r21))), (12, .c (.wh 2)), (45, .c (.s (.b true))), (46, .c (.wh 2)), (47, .c (.s (.str r28))), (49, .c (.sl 0 0 r23.2)), (51, .c (.wh 3)), (53, .c (.sl 1 0 r25.2))], [], [⟨(.ro false), 5, 1, l0.length, .b l0⟩, ⟨(.ro false), 5, 1, l1.length, .b l1⟩, ⟨.row, 5, 1, r28.length, .b r28⟩, ⟨.row, 5, 1, 1, .b [0]⟩]⟩, ⟨[(0, .c (.sl 0 0 r23.2)), (1, .c (.sl 1 0 r25.2)), (2, .c (.s (.k .i64 l2))), (3, .c (.s (.k .i64 l3))), (4, .c (.s (.k .i64 l4))), (11, .c (.s (.b r21))), (12, .c (.wh 2)), (45, .c (.s (.b true))), (46, .c (.wh 2)), (47, .c (.s (.str r28))), (50, .c (.wh 3)), (53, .c (.sl 1 0 r25.2))], [], [⟨(.ro false), 5, 1, l0.length, .b l0⟩, ⟨(.ro false), 5, 1, l1.length, .b l1⟩, ⟨.row, 5, 1, r28.length, .b r28⟩, ⟨.row, 5, 1, ([] ++ ((l0.drop 0).take r23.2)).length, .b ([] ++ ((l0.drop 0).take r23.2))⟩]⟩, ⟨[(0, .c (.sl 0 0 r23.2)), (1, .c (.sl 1 0 r25.2)), (2, .c (.s (.k .i64 l2))), (3, .c (.s (.k .i64 l3))), (4, .c (.s (.k .i64 l4))), (11, .c (.s (.b r21))), (12, .c (.wh 2)), (45, .c (.s (.b true))), (46, .c (.wh 2)), (47, .c (.s (.str r28))), (48, .c (.wh 3)), (49, .c (.sl 0 0 r23.2)), (51, .c (.wh 4)), (53, .c (.sl 1 0 r25.2))], [], [⟨(.ro false), 5, 1, l0.length, .b l0⟩, ⟨(.ro false), 5, 1, l1.length, .b l1⟩, ⟨.row, 5, 1, r28.length, .b r28⟩, ⟨.row, 5, 1, 0, .b []⟩, ⟨.row, 5, 1, 1, .b [0]⟩]⟩, ⟨[(0, .c (.sl 0 0 r23.2)), (1, .c (.sl 1 0 r25.2)), (2, .c (.s (.k .i64 l2))), (3, .c (.s (.k .i64 l3))), (4, .c (.s (.k .i64 l4))), (11, .c (.s (.b r21))), (12, .c (.wh 2)), (45, .c (.s (.b true))), (46, .c (.wh 2)), (47, .c (.s (.str r28))), (50, .c (.wh 3)), (51, .c (.wh 4)), (53, .c (.sl 1 0 r25.2))], [], [⟨(.ro false), 5, 1, l0.length, .b l0⟩, ⟨(.ro false), 5, 1, l1.length, .b l1⟩, ⟨.row, 5, 1, r28.length, .b r28⟩, ⟨.row, 5, 1, ([] ++ ((l0.drop 0).take r23.2)).length, .b ([] ++ ((l0.drop 0).take r23.2))⟩, ⟨.row, 5, 1, 1, .b [0]⟩]⟩, ⟨[(0, .c (.sl 0 0 r23.2)), (1, .c (.sl 1 0 r25.2)), (2, .c (.s (.k .i64 l2))), (3, .c (.s (.k .i64 l3))), (4, .c (.s (.k .i64 l4))), (11, .c (.s (.b r21))), (12, .c (.wh 2)), (45, .c (.s (.b true))), (46, .c (.wh 2)), (47, .c (.s (.str r28))), (52, .c (.wh 3)), (53, .c (.sl 1 0 r25.2))], [], [⟨(.ro false), 5, 1, l0.length, .b l0⟩, ⟨(.ro false), 5, 1, l1.length, .b l1⟩, ⟨.row, 5, 1, r28.length, .b r28⟩, ⟨.row, 5, 1, (([] ++ ((l0.drop 0).take r23.2)) ++ [0]).length, .b (([] ++ ((l0.drop 0).take r23.2)) ++ [0])⟩]⟩, ⟨[(0, .c (.sl 0 0 r23.2)), (1, .c (.sl 1 0 r25.2)), (2, .c (.s (.k .i64 l2))), (3, .c (.s (.k .i64 l3))), (4, .c (.s (.k .i64 l4))), (11, .c (.s (.b r21))), (12, .c (.wh 2)), (45, .c (.s (.b true))), (46, .c (.wh 2)), (47, .c (.s (.str r28))), (54, .c (.wh 3)), (55, .c (.s (.str r54))), (56, .c (.s (.b (r28 != r54)))), (57, .c (.s (.b (r28 != r54))))], [], [⟨(.ro false), 5, 1, l0.length, .b l0⟩, ⟨(.ro false), 5, 1, l1.length, .b l1⟩, ⟨.row, 5, 1, r28.length, .b r28⟩, ⟨.row, 5, 1, r54.length, .b r54⟩]⟩] [0, 1, 2, 3, 4, 5, 7, 11] [⟨0, 6, 1, [], [], [0, 1, 2, 3, 4, 11, 12, 45, 46, 47, 48, 49, 53], [0, 1, 2, 3]⟩, ⟨0, 9, 2, [], [], [0, 1, 2, 3, 4, 11, 12, 45, 46, 47, 49, 51, 53], [0, 1, 2, 3]⟩, ⟨1, 8, 3, [], [], [0, 1, 2, 3, 4, 11, 12, 45, 46, 47, 50, 53], [0, 1, 2, 4]⟩, ⟨1, 9, 4, [], [], [0, 1, 2, 3, 4, 11, 12, 45, 46, 47, 48, 49, 51, 53], [0, 1, 2, 3, 4]⟩, ⟨2, 6, 4, [], [], [0, 1, 2, 3, 4, 11, 12, 45, 46, 47, 48, 49, 51, 53], [0, 1, 2, 4, 3]⟩, ⟨3, 9, 5, [], [], [0, 1, 2, 3, 4, 11, 12, 45, 46, 47, 50, 51, 53], [0, 1, 2, 3, 4]⟩, ⟨4, 8, 5, [], [], [0, 1, 2, 3, 4, 11, 12, 45, 46, 47, 50, 51, 53], [0, 1, 2, 5, 4]⟩, ⟨5, 10, 6, [], [], [0, 1, 2, 3, 4, 11, 12, 45, 46, 47, 52, 53], [0, 1, 2, 5]⟩, ⟨6, 12, 7, [13, 14, 15], [], [0, 1, 2, 3, 4, 11, 12, 45, 46, 47, 54, 55, 56, 57], [0, 1, 2, 4]⟩] [(0, 0), (0, 1), (0, 2), (0, 3), (0, 4), (0, 5), (0, 7), (0, 11), (1, 4), (1, 5), (1, 7), (1, 11), (2, 4), (2, 5), (2, 7), (2, 11), (3, 4), (3, 5), (3, 11), (4, 4), (4, 5), (4, 7), (4, 11), (5, 4), (5, 5), (5, 11), (6, 4), (6, 5), (6, 11), (7, 4), (7, 5), (7, 13), (7, 14), (7, 15)] 7 [0, 1, 2, 3, 4, 11, 12, 42, 43, 44, 45, 46, 47, 49, 53] [0, 1, 2] [] [0, 1, 2, 3, 4, 11, 57] [0, 1] (s' := ⟨[(0, .c (.sl 0 0 r23.2)), (1, .c (.sl 1 0 r25.2)), (2, .c (.s (.k .i64 l2))), (3, .c (.s (.k .i64 l3))), (4, .c (.s (.k .i64 l4))), (11, .c (.s (.b r21))), (57, .c (.s (.b (r28 != r54))))], [], [⟨(.ro false), 5, 1, l0.length, .b l0⟩, ⟨(.ro false), 5, 1, l1.length, .b l1⟩]⟩) (by kernel_rfl) ⟨_, (by kernel_rfl), (allP_cons.2 ⟨g8, allP_nil⟩)⟩ (AllE.cons ⟨_, (by kernel_rfl), allP_nil⟩ (AllE.cons ⟨_, (by kernel_rfl), allP_nil⟩ (AllE.cons ⟨_, (by kernel_rfl), (allP_cons.2 ⟨g9, allP_nil⟩)⟩ (AllE.cons ⟨_, (by kernel_rfl), allP_nil⟩ (AllE.cons ⟨_, (by kernel_rfl), allP_nil⟩ (AllE.cons ⟨_, (by kernel_rfl), allP_nil⟩ (AllE.cons ⟨_, (by kernel_rfl), (allP_cons.2 ⟨g9, allP_nil⟩)⟩ (AllE.cons ⟨_, (by kernel_rfl), (allP_cons.2 ⟨g10, allP_nil⟩)⟩ (AllE.cons ⟨_, (by kernel_rfl), (allP_cons.2 ⟨g11, allP_nil⟩)⟩ AllE.nil))))))))) (AllR.cons ⟨_, (by kernel_rfl), allP_nil⟩ (AllR.cons ⟨_, (by kernel_rfl), allP_nil⟩ (AllR.cons ⟨_, (by kernel_rfl), allP_nil⟩ (AllR.cons ⟨_, (by kernel_rfl), (allP_cons.2 ⟨g8, allP_nil⟩)⟩ (AllR.cons ⟨_, (by kernel_rfl), allP_nil⟩ (AllR.cons ⟨_, (by kernel_rfl), allP_nil⟩ (AllR.cons ⟨_, (by kernel_rfl), allP_nil⟩ (AllR.cons ⟨_, (by kernel_rfl), allP_nil⟩ (AllR.cons ⟨_, (by kernel_rfl), allP_nil⟩ (AllR.cons ⟨_, (by kernel_rfl), allP_nil⟩ (AllR.cons ⟨_, (by kernel_rfl), allP_nil⟩ (AllR.cons ⟨_, (by kernel_rfl), allP_nil⟩ (AllR.cons ⟨_, (by kernel_rfl), allP_nil⟩ (AllR.cons ⟨_, (by kernel_rfl), allP_nil⟩ (AllR.cons ⟨_, (by kernel_rfl), allP_nil⟩ (AllR.cons ⟨_, (by kernel_rfl), allP_nil⟩ (AllR.cons ⟨_, (by kernel_rfl), allP_nil⟩ (AllR.cons ⟨_, (by kernel_rfl), allP_nil⟩ (AllR.cons ⟨_, (by kernel_rfl), allP_nil⟩ (AllR.cons ⟨_, (by kernel_rfl), allP_nil⟩ (AllR.cons ⟨_, (by kernel_rfl), allP_nil⟩ (AllR.cons ⟨_, (by kernel_rfl), allP_nil⟩ (AllR.cons ⟨_, (by kernel_rfl), allP_nil⟩ (AllR.cons ⟨_, (by kernel_rfl), allP_nil⟩ (AllR.cons ⟨_, (by kernel_rfl), allP_nil⟩ (AllR.cons ⟨_, (by kernel_rfl), allP_nil⟩ (AllR.cons ⟨_, (by kernel_rfl), allP_nil⟩ (AllR.cons ⟨_, (by kernel_rfl), allP_nil⟩ (AllR.cons ⟨_, (by kernel_rfl), allP_nil⟩ (AllR.cons ⟨_, (by kernel_rfl), allP_nil⟩ (AllR.cons ⟨_, (by kernel_rfl), allP_nil⟩ (AllR.cons ⟨_, (by kernel_rfl), allP_nil⟩ (AllR.cons ⟨_, (by kernel_rfl), allP_nil⟩ (AllR.cons ⟨_, (by kernel_rfl), allP_nil⟩ AllR.nil)))))))))))))))))))))))))))))))))) (by kernel_rfl) ?_
          refine W_cond (b := (r28 != r54)) (by kernel_rfl) (fun g32 => ?_) (fun g32 => ?_)
          · replace h := bif_t h g32
            refine W_seq ?_
            refine W_reg hT ftL_nil [] [] [10] [] (s' := ⟨[(10, .c (.s (.b false)))], [], []⟩) (by kernel_rfl) allP_nil ?_
            refine W_co [] [10] [] (s' := (lLong_R false)) (by kernel_rfl) (W_ret ?_)
            exact ⟨.inl rfl, by cases h; rfl⟩
          · replace h := bif_f h g32
            refine W_co [] [0, 1, 2, 3, 4, 11] [0, 1] (s' := ⟨[(0, .c (.sl 0 0 r23.2)), (1, .c (.sl 1 0 r25.2)), (2, .c (.s (.k .i64 l2))), (3, .c (.s (.k .i64 l3))), (4, .c (.s (.k .i64 l4))), (11, .c (.s (.b r21)))], [], [⟨(.ro false), 5, 1, l0.length, .b l0⟩, ⟨(.ro false), 5, 1, l1.length, .b l1⟩]⟩) (by kernel_rfl) (W_skip ?_)
            refine W_seq ?_
            refine W_seq ?_
            rcases Bool.eq_false_or_eq_true (decide (l2 < (1 : Int))) with g12 | g12
            · replace h := bif_t h g12
              refine W_reg hT ftL_nil [(2, true)] [] [0, 1, 2, 3, 4, 11, 76] [0, 1] (s' := ⟨[(0, .c (.sl 0 0 r23.2)), (1, .c (.sl 1 0 r25.2)), (2, .c (.s (.k .i64 l2))), (3, .c (.s (.k .i64 l3))), (4, .c (.s (.k .i64 l4))), (11, .c (.s (.b r21))), (76, .c (.s (.b true)))], [], [⟨(.ro false), 5, 1, l0.length, .b l0⟩, ⟨(.ro false), 5, 1, l1.length, .b l1⟩]⟩) (by kernel_rfl) (allP_cons.2 ⟨g12, allP_nil⟩) ?_
              refine W_cond (b := true) (by kernel_rfl) (fun _ => ?_) (fun hb => by cases hb)
              refine W_seq ?_
              refine W_reg hT ftL_nil [] [] [10] [] (s' := ⟨[(10, .c (.s (.b r21)))], [], []⟩) (by kernel_rfl) allP_nil ?_
              refine W_co [] [10] [] (s' := (lLong_R r21)) (by kernel_rfl) (W_ret ?_)
              exact ⟨.inl rfl, by cases h; rfl⟩
            · replace h := bif_f h g12
              rcases Bool.eq_false_or_eq_true (decide ((6 : Int) < l2)) with g13 | g13
              · replace h := bif_t h g13
                refine W_reg hT ftL_nil [(2, false), (6, true)] [] [0, 1, 2, 3, 4, 11, 76] [0, 1] (s' := ⟨[(0, .c (.sl 0 0 r23.2)), (1, .c (.sl 1 0 r25.2)), (2, .c (.s (.k .i64 l2))), (3, .c (.s (.k .i64 l3))), (4, .c (.s (.k .i64 l4))), (11, .c (.s (.b r21))), (76, .c (.s (.b true)))], [], [⟨(.ro false), 5, 1, l0.length, .b l0⟩, ⟨(.ro false), 5, 1, l1.length, .b l1⟩]⟩) (by kernel_rfl) (allP_cons.2 ⟨g12, (allP_cons.2 ⟨g13, allP_nil⟩)⟩) ?_
                refine W_cond (b := true) (by kernel_rfl) (fun _ => ?_) (fun hb => by cases hb)
                refine W_seq ?_
                refine W_reg hT ftL_nil [] [] [10] [] (s' := ⟨[(10, .c (.s (.b r21)))], [], []⟩) (by kernel_rfl) allP_nil ?_
                refine W_co [] [10] [] (s' := (lLong_R r21)) (by kernel_rfl) (W_ret ?_)
                exact ⟨.inl rfl, by cases h; rfl⟩
              · replace h := bif_f h g13
                rcases Bool.eq_false_or_eq_true (decide (l3 < (0 : Int))) with g14 | g14
                · replace h := bif_t h g14
                  refine W_reg hT ftL_nil [(2, false), (6, false), (10, true)] [] [0, 1, 2, 3, 4, 11, 76] [0, 1] (s' := ⟨[(0, .c (.sl 0 0 r23.2)), (1, .c (.sl 1 0 r25.2)), (2, .c (.s (.k .i64 l2))), (3, .c (.s (.k .i64 l3))), (4, .c (.s (.k .i64 l4))), (11, .c (.s (.b r21))), (76, .c (.s (.b true)))], [], [⟨(.ro false), 5, 1, l0.length, .b l0⟩, ⟨(.ro false), 5, 1, l1.length, .b l1⟩]⟩) (by kernel_rfl) (allP_cons.2 ⟨g12, (allP_cons.2 ⟨g13, (allP_cons.2 ⟨g14, allP_nil⟩)⟩)⟩) ?_
                  refine W_cond (b := true) (by kernel_rfl) (fun _ => ?_) (fun hb => by cases hb)
                  refine W_seq ?_
                  refine W_reg hT ftL_nil [] [] [10] [] (s' := ⟨[(10, .c (.s (.b r21)))], [], []⟩) (by kernel_rfl) allP_nil ?_
                  refine W_co [] [10] [] (s' := (lLong_R r21)) (by kernel_rfl) (W_ret ?_)
                  exact ⟨.inl rfl, by cases h; rfl⟩
                · replace h := bif_f h g14
                  rcases Bool.eq_false_or_eq_true (decide (l4 < l3)) with g15 | g15
                  · replace h := bif_t h g15
                    refine W_reg hT ftL_nil [(2, false), (6, false), (10, false), (15, true)] [] [0, 1, 2, 3, 4, 11, 76] [0, 1] (s' := ⟨[(0, .c (.sl 0 0 r23.2)), (1, .c (.sl 1 0 r25.2)), (2, .c (.s (.k .i64 l2))), (3, .c (.s (.k .i64 l3))), (4, .c (.s (.k .i64 l4))), (11, .c (.s (.b r21))), (76, .c (.s (.b true)))], [], [⟨(.ro false), 5, 1, l0.length, .b l0⟩, ⟨(.ro false), 5, 1, l1.length, .b l1⟩]⟩) (by kernel_rfl) (allP_cons.2 ⟨g12, (allP_cons.2 ⟨g13, (allP_cons.2 ⟨g14, (allP_cons.2 ⟨g15, allP_nil⟩)⟩)⟩)⟩) ?_
                    refine W_cond (b := true) (by kernel_rfl) (fun _ => ?_) (fun hb => by cases hb)
                    refine W_seq ?_
                    refine W_reg hT ftL_nil [] [] [10] [] (s' := ⟨[(10, .c (.s (.b r21)))], [], []⟩) (by kernel_rfl) allP_nil ?_
                    refine W_co [] [10] [] (s' := (lLong_R r21)) (by kernel_rfl) (W_ret ?_)
                    exact ⟨.inl rfl, by cases h; rfl⟩
                  · replace h := bif_f h g15
                    refine W_reg hT ftL_nil [(2, false), (6, false), (10, false), (15, false)] [] [0, 1, 2, 3, 4, 11, 76] [0, 1] (s' := ⟨[(0, .c (.sl 0 0 r23.2)), (1, .c (.sl 1 0 r25.2)), (2, .c (.s (.k .i64 l2))), (3, .c (.s (.k .i64 l3))), (4, .c (.s (.k .i64 l4))), (11, .c (.s (.b r21))), (76, .c (.s (.b (decide ((256 : Int) < l4)))))], [], [⟨(.ro false), 5, 1, l0.length, .b l0⟩, ⟨(.ro false), 5, 1, l1.length, .b l1⟩]⟩) (by kernel_rfl) (allP_cons.2 ⟨g12, (allP_cons.2 ⟨g13, (allP_cons.2 ⟨g14, (allP_cons.2 ⟨g15, allP_nil⟩)⟩)⟩)⟩) ?_
                    refine W_cond (b := (decide ((256 : Int) < l4))) (by kernel_rfl) (fun g31 => ?_) (fun g31 => ?_)
                    · replace h := bif_t h g31
                      refine W_seq ?_
                      refine W_reg hT ftL_nil [] [] [10] [] (s' := ⟨[(10, .c (.s (.b r21)))], [], []⟩) (by kernel_rfl) allP_nil ?_
                      refine W_co [] [10] [] (s' := (lLong_R r21)) (by kernel_rfl) (W_ret ?_)
                      exact ⟨.inl rfl, by cases h; rfl⟩
                    · replace h := bif_f h g31
                      refine W_co [] [0, 1, 2, 3, 4, 11] [0, 1] (s' := ⟨[(0, .c (.sl 0 0 r23.2)), (1, .c (.sl 1 0 r25.2)), (2, .c (.s (.k .i64 l2))), (3, .c (.s (.k .i64 l3))), (4, .c (.s (.k .i64 l4))), (11, .c (.s (.b r21)))], [], [⟨(.ro false), 5, 1, l0.length, .b l0⟩, ⟨(.ro false), 5, 1, l1.length, .b l1⟩]⟩) (by kernel_rfl) (W_skip ?_)
                      refine W_seq ?_
                      obtain ⟨r83, g16, h⟩ := bind_some' h
                      refine W_reg hT (ftL_cons (k := 4) (f := 14) (F := (mDerive_ct n r83)) (mDerive_ok n r83) hI ftL_nil) [] [] [0, 1, 2, 3, 4, 11, 13, 14] [0, 1, 2] (s' := ⟨[(0, .c (.sl 0 0 r23.2)), (1, .c (.sl 1 0 r25.2)), (2, .c (.s (.k .i64 l2))), (3, .c (.s (.k .i64 l3))), (4, .c (.s (.k .i64 l4))), (11, .c (.s (.b r21))), (13, .c (.sl 2 0 r83.2.1)), (14, .c (.s (.er 38 .i64 r83.2.2)))], [], [⟨(.ro false), 5, 1, l0.length, .b l0⟩, ⟨(.ro false), 5, 1, l1.length, .b l1⟩, ⟨.row, 5, 1, r83.1.length, .b r83.1⟩]⟩) (by kernel_rfl) (allP_cons.2 ⟨g16, allP_nil⟩) ?_
                      refine W_seq ?_
                      obtain ⟨r91, g17, h⟩ := bind_some' h
                      refine W_reg hT (ftL_cons (k := 4) (f := 14) (F := (mDerive_ct n r91)) (mDerive_ok n r91) hI ftL_nil) [] [] [0, 1, 2, 3, 4, 11, 13, 14, 15, 16] [0, 1, 2, 3] (s' := ⟨[(0, .c (.sl 0 0 r23.2)), (1, .c (.sl 1 0 r25.2)), (2, .c (.s (.k .i64 l2))), (3, .c (.s (.k .i64 l3))), (4, .c (.s (.k .i64 l4))), (11, .c (.s (.b r21))), (13, .c (.sl 2 0 r83.2.1)), (14, .c (.s (.er 38 .i64 r83.2.2))), (15, .c (.sl 3 0 r91.2.1)), (16, .c (.s (.er 38 .i64 r91.2.2)))], [], [⟨(.ro false), 5, 1, l0.length, .b l0⟩, ⟨(.ro false), 5, 1, l1.length, .b l1⟩, ⟨.row, 5, 1, r83.1.length, .b r83.1⟩, ⟨.row, 5, 1, r91.1.length, .b r91.1⟩]⟩) (by kernel_rfl) (allP_cons.2 ⟨g17, allP_nil⟩) ?_
                      refine W_seq ?_
                      obtain ⟨r98, g18, h⟩ := bind_some' h
                      refine W_reg hT (ftL_cons (k := 3) (f := 16) (F := (mBased_ct n r98)) (mBased_ok n r98) hI ftL_nil) [] [] [0, 1, 2, 3, 4, 11, 13, 14, 15, 16, 17, 18] [0, 1, 2, 3, 4] (s' := ⟨[(0, .c (.sl 0 0 r23.2)), (1, .c (.sl 1 0 r25.2)), (2, .c (.s (.k .i64 l2))), (3, .c (.s (.k .i64 l3))), (4, .c (.s (.k .i64 l4))), (11, .c (.s (.b r21))), (13, .c (.sl 2 0 r83.2.1)), (14, .c (.s (.er 38 .i64 r83.2.2))), (15, .c (.sl 3 0 r91.2.1)), (16, .c (.s (.er 38 .i64 r91.2.2))), (17, .c (.wh 4)), (18, .c (.s (.er 38 .i64 r98.2)))], [], [⟨(.ro false), 5, 1, l0.length, .b l0⟩, ⟨(.ro false), 5, 1, l1.length, .b l1⟩, ⟨.row, 5, 1, r83.1.length, .b r83.1⟩, ⟨.row, 5, 1, r91.1.length, .b r91.1⟩, ⟨.row, 5, 1, r98.1.length, .b r98.1⟩]⟩) (by kernel_rfl) (allP_cons.2 ⟨g18, allP_nil⟩) ?_
                      refine W_seq ?_
                      obtain ⟨g19, h⟩ := gd_some h
                      obtain ⟨r106, g20, h⟩ := bind_some' h
                      refine W_reg hT (ftL_cons (k := 4) (f := 16) (F := (mBased_ct n r106)) (mBased_ok n r106) hI ftL_nil) [] [] [3, 4, 11, 13, 14, 15, 16, 17, 18, 19, 20] [2, 3, 4, 5] (s' := ⟨[(3, .c (.s (.k .i64 l3))), (4, .c (.s (.k .i64 l4))), (11, .c (.s (.b r21))), (13, .c (.sl 0 0 r83.2.1)), (14, .c (.s (.er 38 .i64 r83.2.2))), (15, .c (.sl 1 0 r91.2.1)), (16, .c (.s (.er 38 .i64 r91.2.2))), (17, .c (.wh 2)), (18, .c (.s (.er 38 .i64 r98.2))), (19, .c (.wh 3)), (20, .c (.s (.er 38 .i64 r106.2)))], [], [⟨.row, 5, 1, r83.1.length, .b r83.1⟩, ⟨.row, 5, 1, r91.1.length, .b r91.1⟩, ⟨.row, 5, 1, r98.1.length, .b r98.1⟩, ⟨.row, 5, 1, r106.1.length, .b r106.1⟩]⟩) (by kernel_rfl) (allP_cons.2 ⟨g19, (allP_cons.2 ⟨g20, allP_nil⟩)⟩) ?_
                      refine W_seq ?_
                      rcases Bool.eq_false_or_eq_true r21 with g21 | g21
                      · replace h := bif_t h g21
                        rcases Bool.eq_false_or_eq_true ((r83.2.2).isNone) with g22 | g22
                        · replace h := bif_t h g22
                          rcases Bool.eq_false_or_eq_true ((r91.2.2).isNone) with g23 | g23
                          · replace h := bif_t h g23
                            rcases Bool.eq_false_or_eq_true ((r98.2).isNone) with g24 | g24
                            · replace h := bif_t h g24
                              rcases Bool.eq_false_or_eq_true ((r106.2).isNone) with g25 | g25
                              · replace h := bif_t h g25
                                rcases Bool.eq_false_or_eq_true (((r91.2.1 : Nat) : Int) == l4) with g26 | g26
                                · replace h := bif_t h g26
                                  obtain ⟨g27, h⟩ := gd_some h
                                  obtain ⟨g28, h⟩ := gd_some h
                                  rcases Bool.eq_false_or_eq_true (((r83.1.drop 0).take r83.2.1) == ((r91.1.drop 0).take l3.toNat)) with g29 | g29
                                  · replace h := bif_t h g29
                                    obtain ⟨g30, h⟩ := gd_some h
                                    refine W_regD hT (ftL_cons (k := 36) (f := 19) (F := sum_ct) sum_h hI ftL_nil) (by kernel_rfl) 38 [(1, true), (5, true), (9, true), (13, true), (17, true), (23, true), (32, true)] [(141, false), (143, false), (146, false)] [] [10] [] (s' := ⟨[(10, .c (.s (.b (r106.1 == (digest consts begin8 r98.1)))))], [], []⟩) (by kernel_rfl) (by kernel_rfl) (allP_cons.2 ⟨g21, (allP_cons.2 ⟨g22, (allP_cons.2 ⟨g23, (allP_cons.2 ⟨g24, (allP_cons.2 ⟨g25, (allP_cons.2 ⟨g26, (allP_cons.2 ⟨g27, (allP_cons.2 ⟨g28, (allP_cons.2 ⟨g29, (allP_cons.2 ⟨g30, allP_nil⟩)⟩)⟩)⟩)⟩)⟩)⟩)⟩)⟩)⟩) ?_
                                    refine W_co [] [10] [] (s' := (lLong_R (r106.1 == (digest consts begin8 r98.1)))) (by kernel_rfl) (W_ret ?_)
                                    exact ⟨.inl rfl, by cases h; rfl⟩
                                  · replace h := bif_f h g29
                                    refine W_regD hT ftL_nil (by kernel_rfl) 38 [(1, true), (5, true), (9, true), (13, true), (17, true), (23, true), (32, false)] [(141, false), (143, false), (146, false)] [] [10] [] (s' := ⟨[(10, .c (.s (.b false)))], [], []⟩) (by kernel_rfl) (by kernel_rfl) (allP_cons.2 ⟨g21, (allP_cons.2 ⟨g22, (allP_cons.2 ⟨g23, (allP_cons.2 ⟨g24, (allP_cons.2 ⟨g25, (allP_cons.2 ⟨g26, (allP_cons.2 ⟨g27, (allP_cons.2 ⟨g28, (allP_cons.2 ⟨g29, allP_nil⟩)⟩)⟩)⟩)⟩)⟩)⟩)⟩)⟩) ?_
                                    refine W_co [] [10] [] (s' := (lLong_R false)) (by kernel_rfl) (W_ret ?_)
                                    exact ⟨.inl rfl, by cases h; rfl⟩
                                · replace h := bif_f h g26
                                  refine W_regD hT ftL_nil (by kernel_rfl) 38 [(1, true), (5, true), (9, true), (13, true), (17, true), (23, false)] [(141, false), (143, false), (146, false)] [] [10] [] (s' := ⟨[(10, .c (.s (.b false)))], [], []⟩) (by kernel_rfl) (by kernel_rfl) (allP_cons.2 ⟨g21, (allP_cons.2 ⟨g22, (allP_cons.2 ⟨g23, (allP_cons.2 ⟨g24, (allP_cons.2 ⟨g25, (allP_cons.2 ⟨g26, allP_nil⟩)⟩)⟩)⟩)⟩)⟩) ?_
                                  refine W_co [] [10] [] (s' := (lLong_R false)) (by kernel_rfl) (W_ret ?_)
                                  exact ⟨.inl rfl, by cases h; rfl⟩
                              · replace h := bif_f h g25
                                refine W_regD hT ftL_nil (by kernel_rfl) 38 [(1, true), (5, true), (9, true), (13, true), (17, false)] [(141, false), (143, false), (146, false)] [] [10] [] (s' := ⟨[(10, .c (.s (.b false)))], [], []⟩) (by kernel_rfl) (by kernel_rfl) (allP_cons.2 ⟨g21, (allP_cons.2 ⟨g22, (allP_cons.2 ⟨g23, (allP_cons.2 ⟨g24, (allP_cons.2 ⟨g25, allP_nil⟩)⟩)⟩)⟩)⟩) ?_
                                refine W_co [] [10] [] (s' := (lLong_R false)) (by kernel_rfl) (W_ret ?_)
                                exact ⟨.inl rfl, by cases h; rfl⟩
                            · replace h := bif_f h g24
                              refine W_regD hT ftL_nil (by kernel_rfl) 38 [(1, true), (5, true), (9, true), (13, false)] [(141, false), (143, false), (146, false)] [] [10] [] (s' := ⟨[(10, .c (.s (.b false)))], [], []⟩) (by kernel_rfl) (by kernel_rfl) (allP_cons.2 ⟨g21, (allP_cons.2 ⟨g22, (allP_cons.2 ⟨g23, (allP_cons.2 ⟨g24, allP_nil⟩)⟩)⟩)⟩) ?_
                              refine W_co [] [10] [] (s' := (lLong_R false)) (by kernel_rfl) (W_ret ?_)
                              exact ⟨.inl rfl, by cases h; rfl⟩
                          · replace h := bif_f h g23
                            refine W_regD hT ftL_nil (by kernel_rfl) 38 [(1, true), (5, true), (9, false)] [(141, false), (143, false), (146, false)] [] [10] [] (s' := ⟨[(10, .c (.s (.b false)))], [], []⟩) (by kernel_rfl) (by kernel_rfl) (allP_cons.2 ⟨g21, (allP_cons.2 ⟨g22, (allP_cons.2 ⟨g23, allP_nil⟩)⟩)⟩) ?_
                            refine W_co [] [10] [] (s' := (lLong_R false)) (by kernel_rfl) (W_ret ?_)
                            exact ⟨.inl rfl, by cases h; rfl⟩
                        · replace h := bif_f h g22
                          refine W_regD hT ftL_nil (by kernel_rfl) 38 [(1, true), (5, false)] [(141, false), (143, false), (146, false)] [] [10] [] (s' := ⟨[(10, .c (.s (.b false)))], [], []⟩) (by kernel_rfl) (by kernel_rfl) (allP_cons.2 ⟨g21, (allP_cons.2 ⟨g22, allP_nil⟩)⟩) ?_
                          refine W_co [] [10] [] (s' := (lLong_R false)) (by kernel_rfl) (W_ret ?_)
                          exact ⟨.inl rfl, by cases h; rfl⟩
                      · replace h := bif_f h g21
                        refine W_regD hT ftL_nil (by kernel_rfl) 38 [(1, false)] [(141, false), (143, false), (146, false)] [] [10] [] (s' := ⟨[(10, .c (.s (.b false)))], [], []⟩) (by kernel_rfl) (by kernel_rfl) (allP_cons.2 ⟨g21, allP_nil⟩) ?_
                        refine W_co [] [10] [] (s' := (lLong_R false)) (by kernel_rfl) (W_ret ?_)
                        exact ⟨.inl rfl, by cases h; rfl⟩
        · replace h := bif_f h g8
          refine W_regG hT ftL_nil (by kernel_rfl) [(3, false)] [0, 1, 2, 3, 4, 5, 6, 7, 8, 9, 10, 11, 12, 13, 14, 15] [[0, 1, 2, 3, 4, 5, 6, 7, 8, 9, 10, 11, 12, 13, 14, 15]] [⟨[(0, .c (.sl 0 0 r23.2)), (1, .c (.sl 1 0 r25.2)), (2, .c (.s (.k .i64 l2))), (3, .c (.s (.k .i64 l3))), (4, .c (.s (.k .i64 l4))), (11, .c (.s (.b r21))), (12, .c (.wh 2)), (42, .c (.sl 0 0 r23.2)), (43, .c (.s (.k .i64 ((r23.2 : Nat) : Int)))), (44, .c (.s (.b (decide (((r23.2 : Nat) : Int) < (64 : Int)))))), (45, .c (.s (.b false))), (46, .t []), (47, .t []), (48, .t []), (49, .t []), (50, .t []), (51, .t []), (52, .t []), (53, .t []), (54, .t []), (55, .t []), (56, .t []), (57, .c (.s (.b false)))], [], [⟨(.ro false), 5, 1, l0.length, .b l0⟩, ⟨(.ro false), 5, 1, l1.length, .b l1⟩, ⟨.row, 5, 1, r28.length, .b r28⟩]⟩] [0, 1, 2, 3, 4, 5, 6, 7, 8, 9, 10, 11, 12, 13, 14, 15] [] [(0, 0), (0, 1), (0, 2), (0, 3), (0, 4), (0, 5), (0, 6), (0, 7), (0, 8), (0, 9), (0, 10), (0, 11), (0, 12), (0, 13), (0, 14), (0, 15)] 0 [0, 1, 2, 3, 4, 11, 12, 42, 43, 44, 45, 46, 47, 48, 49, 50, 51, 52, 53, 54, 55, 56, 57] [0, 1, 2] [] [0, 1, 2, 3, 4, 11, 57] [0, 1] (s' := ⟨[(0, .c (.sl 0 0 r23.2)), (1, .c (.sl 1 0 r25.2)), (2, .c (.s (.k .i64 l2))), (3, .c (.s (.k .i64 l3))), (4, .c (.s (.k .i64 l4))), (11, .c (.s (.b r21))), (57, .c (.s (.b false)))], [], [⟨(.ro false), 5, 1, l0.length, .b l0⟩, ⟨(.ro false), 5, 1, l1.length, .b l1⟩]⟩) (by kernel_rfl) ⟨_, (by kernel_rfl), (allP_cons.2 ⟨g8, allP_nil⟩)⟩ AllE.nil (AllR.cons ⟨_, (by kernel_rfl), allP_nil⟩ (AllR.cons ⟨_, (by kernel_rfl), allP_nil⟩ (AllR.cons ⟨_, (by kernel_rfl), allP_nil⟩ (AllR.cons ⟨_, (by kernel_rfl), (allP_cons.2 ⟨g8, allP_nil⟩)⟩ (AllR.cons ⟨_, (by kernel_rfl), allP_nil⟩ (AllR.cons ⟨_, (by kernel_rfl), allP_nil⟩ (AllR.cons ⟨_, (by kernel_rfl), allP_nil⟩ (AllR.cons ⟨_, (by kernel_rfl), allP_nil⟩ (AllR.cons ⟨_, (by kernel_rfl), allP_nil⟩ (AllR.cons ⟨_, (by kernel_rfl), allP_nil⟩ (AllR.cons ⟨_, (by kernel_rfl), allP_nil⟩ (AllR.cons ⟨_, (by kernel_rfl), allP_nil⟩ (AllR.cons ⟨_, (by kernel_rfl), allP_nil⟩ (AllR.cons ⟨_, (by kernel_rfl), allP_nil⟩ (AllR.cons ⟨_, (by kernel_rfl), allP_nil⟩ (AllR.cons ⟨_, (by kernel_rfl), allP_nil⟩ AllR.nil)))))))))))))))) (by kernel_rfl) ?_
          refine W_cond (b := false) (by kernel_rfl) (fun hb => by cases hb) (fun _ => ?_)
          refine W_co [] [0, 1, 2, 3, 4, 11] [0, 1] (s' := ⟨[(0, .c (.sl 0 0 r23.2)), (1, .c (.sl 1 0 r25.2)), (2, .c (.s (.k .i64 l2))), (3, .c (.s (.k .i64 l3))), (4, .c (.s (.k .i64 l4))), (11, .c (.s (.b r21)))], [], [⟨(.ro false), 5, 1, l0.length, .b l0⟩, ⟨(.ro false), 5, 1, l1.length, .b l1⟩]⟩) (by kernel_rfl) (W_skip ?_)
          refine W_seq ?_
          refine W_seq ?_
          rcases Bool.eq_false_or_eq_true (decide (l2 < (1 : Int))) with g33 | g33
          · replace h := bif_t h g33
            refine W_reg hT ftL_nil [(2, true)] [] [0, 1, 2, 3, 4, 11, 76] [0, 1] (s' := ⟨[(0, .c (.sl 0 0 r23.2)), (1, .c (.sl 1 0 r25.2)), (2, .c (.s (.k .i64 l2))), (3, .c (.s (.k .i64 l3))), (4, .c (.s (.k .i64 l4))), (11, .c (.s (.b r21))), (76, .c (.s (.b true)))], [], [⟨(.ro false), 5, 1, l0.length, .b l0⟩, ⟨(.ro false), 5, 1, l1.length, .b l1⟩]⟩) (by kernel_rfl) (allP_cons.2 ⟨g33, allP_nil⟩) ?_
            refine W_cond (b := true) (by kernel_rfl) (fun _ => ?_) (fun hb => by cases hb)
            refine W_seq ?_
            refine W_reg hT ftL_nil [] [] [10] [] (s' := ⟨[(10, .c (.s (.b r21)))], [], []⟩) (by kernel_rfl) allP_nil ?_
            refine W_co [] [10] [] (s' := (lLong_R r21)) (by kernel_rfl) (W_ret ?_)
            exact ⟨.inl rfl, by cases h; rfl⟩
          · replace h := bif_f h g33
            rcases Bool.eq_false_or_eq_true (decide ((6 : Int) < l2)) with g34 | g34
            · replace h := bif_t h g34
              refine W_reg hT ftL_nil [(2, false), (6, true)] [] [0, 1, 2, 3, 4, 11, 76] [0, 1] (s' := ⟨[(0, .c (.sl 0 0 r23.2)), (1, .c (.sl 1 0 r25.2)), (2, .c (.s (.k .i64 l2))), (3, .c (.s (.k .i64 l3))), (4, .c (.s (.k .i64 l4))), (11, .c (.s (.b r21))), (76, .c (.s (.b true)))], [], [⟨(.ro false), 5, 1, l0.length, .b l0⟩, ⟨(.ro false), 5, 1, l1.length, .b l1⟩]⟩) (by kernel_rfl) (allP_cons.2 ⟨g33, (allP_cons.2 ⟨g34, allP_nil⟩)⟩) ?_
              refine W_cond (b := true) (by kernel_rfl) (fun _ => ?_) (fun hb => by cases hb)
              refine W_seq ?_
              refine W_reg hT ftL_nil [] [] [10] [] (s' := ⟨[(10, .c (.s (.b r21)))], [], []⟩) (by kernel_rfl) allP_nil ?_
              refine W_co [] [10] [] (s' := (lLong_R r21)) (by kernel_rfl) (W_ret ?_)
              exact ⟨.inl rfl, by cases h; rfl⟩
            · replace h := bif_f h g34
              rcases Bool.eq_false_or_eq_true (decide (l3 < (0 : Int))) with g35 | g35
              · replace h := bif_t h g35
                refine W_reg hT ftL_nil [(2, false), (6, false), (10, true)] [] [0, 1, 2, 3, 4, 11, 76] [0, 1] (s' := ⟨[(0, .c (.sl 0 0 r23.2)), (1, .c (.sl 1 0 r25.2)), (2, .c (.s (.k .i64 l2))), (3, .c (.s (.k .i64 l3))), (4, .c (.s (.k .i64 l4))), (11, .c (.s (.b r21))), (76, .c (.s (.b true)))], [], [⟨(.ro false), 5, 1, l0.length, .b l0⟩, ⟨(.ro false), 5, 1, l1.length, .b l1⟩]⟩) (by kernel_rfl) (allP_cons.2 ⟨g33, (allP_cons.2 ⟨g34, (allP_cons.2 ⟨g35, allP_nil⟩)⟩)⟩) ?_
                refine W_cond (b := true) (by kernel_rfl) (fun _ => ?_) (fun hb => by cases hb)
                refine W_seq ?_
                refine W_reg hT ftL_nil [] [] [10] [] (s' := ⟨[(10, .c (.s (.b r21)))], [], []⟩) (by kernel_rfl) allP_nil ?_
                refine W_co [] [10] [] (s' := (lLong_R r21)) (by kernel_rfl) (W_ret ?_)
                exact ⟨.inl rfl, by cases h; rfl⟩
              · replace h := bif_f h g35
                rcases Bool.eq_false_or_eq_true (decide (l4 < l3)) with g36 | g36
                · replace h := bif_t h g36
                  refine W_reg hT ftL_nil [(2, false), (6, false), (10, false), (15, true)] [] [0, 1, 2, 3, 4, 11, 76] [0, 1] (s' := ⟨[(0, .c (.sl 0 0 r23.2)), (1, .c (.sl 1 0 r25.2)), (2, .c (.s (.k .i64 l2))), (3, .c (.s (.k .i64 l3))), (4, .c (.s (.k .i64 l4))), (11, .c (.s (.b r21))), (76, .c (.s (.b true)))], [], [⟨(.ro false), 5, 1, l0.length, .b l0⟩, ⟨(.ro false), 5, 1, l1.length, .b l1⟩]⟩) (by kernel_rfl) (allP_cons.2 ⟨g33, (allP_cons.2 ⟨g34, (allP_cons.2 ⟨g35, (allP_cons.2 ⟨g36, allP_nil⟩)⟩)⟩)⟩) ?_
                  refine W_cond (b := true) (by kernel_rfl) (fun _ => ?_) (fun hb => by cases hb)
                  refine W_seq ?_
                  refine W_reg hT ftL_nil [] [] [10] [] (s' := ⟨[(10, .c (.s (.b r21)))], [], []⟩) (by kernel_rfl) allP_nil ?_
                  refine W_co [] [10] [] (s' := (lLong_R r21)) (by kernel_rfl) (W_ret ?_)
                  exact ⟨.inl rfl, by cases h; rfl⟩
                · replace h := bif_f h g36
                  refine W_reg hT ftL_nil [(2, false), (6, false), (10, false), (15, false)] [] [0, 1, 2, 3, 4, 11, 76] [0, 1] (s' := ⟨[(0, .c (.sl 0 0 r23.2)), (1, .c (.sl 1 0 r25.2)), (2, .c (.s (.k .i64 l2))), (3, .c (.s (.k .i64 l3))), (4, .c (.s (.k .i64 l4))), (11, .c (.s (.b r21))), (76, .c (.s (.b (decide ((256 : Int) < l4)))))], [], [⟨(.ro false), 5, 1, l0.length, .b l0⟩, ⟨(.ro false), 5, 1, l1.length, .b l1⟩]⟩) (by kernel_rfl) (allP_cons.2 ⟨g33, (allP_cons.2 ⟨g34, (allP_cons.2 ⟨g35, (allP_cons.2 ⟨g36, allP_nil⟩)⟩)⟩)⟩) ?_
                  refine W_cond (b := (decide ((256 : Int) < l4))) (by kernel_rfl) (fun g52 => ?_) (fun g52 => ?_)
                  · replace h := bif_t h g52
                    refine W_seq ?_
                    refine W_reg hT ftL_nil [] [] [10] [] (s' := ⟨[(10, .c (.s (.b r21)))], [], []⟩) (by kernel_rfl) allP_nil ?_
                    refine W_co [] [10] [] (s' := (lLong_R r21)) (by kernel_rfl) (W_ret ?_)
                    exact ⟨.inl rfl, by cases h; rfl⟩
                  · replace h := bif_f h g52
                    refine W_co [] [0, 1, 2, 3, 4, 11] [0, 1] (s' := ⟨[(0, .c (.sl 0 0 r23.2)), (1, .c (.sl 1 0 r25.2)), (2, .c (.s (.k .i64 l2))), (3, .c (.s (.k .i64 l3))), (4, .c (.s (.k .i64 l4))), (11, .c (.s (.b r21)))], [], [⟨(.ro false), 5, 1, l0.length, .b l0⟩, ⟨(.ro false), 5, 1, l1.length, .b l1⟩]⟩) (by kernel_rfl) (W_skip ?_)
                    refine W_seq ?_
                    obtain ⟨r83, g37, h⟩ := bind_some' h
                    refine W_reg hT (ftL_cons (k := 4) (f := 14) (F := (mDerive_ct n r83)) (mDerive_ok n r83) hI ftL_nil) [] [] [0, 1, 2, 3, 4, 11, 13, 14] [0, 1, 2] (s' := ⟨[(0, .c (.sl 0 0 r23.2)), (1, .c (.sl 1 0 r25.2)), (2, .c (.s (.k .i64 l2))), (3, .c (.s (.k .i64 l3))), (4, .c (.s (.k .i64 l4))), (11, .c (.s (.b r21))), (13, .c (.sl 2 0 r83.2.1)), (14, .c (.s (.er 38 .i64 r83.2.2)))], [], [⟨(.ro false), 5, 1, l0.length, .b l0⟩, ⟨(.ro false), 5, 1, l1.length, .b l1⟩, ⟨.row, 5, 1, r83.1.length, .b r83.1⟩]⟩) (by kernel_rfl) (allP_cons.2 ⟨g37, allP_nil⟩) ?_
                    refine W_seq ?_
                    obtain ⟨r91, g38, h⟩ := bind_some' h
                    refine W_reg hT (ftL_cons (k := 4) (f := 14) (F := (mDerive_ct n r91)) (mDerive_ok n r91) hI ftL_nil) [] [] [0, 1, 2, 3, 4, 11, 13, 14, 15, 16] [0, 1, 2, 3] (s' := ⟨[(0, .c (.sl 0 0 r23.2)), (1, .c (.sl 1 0 r25.2)), (2, .c (.s (.k .i64 l2))), (3, .c (.s (.k .i64 l3))), (4, .c (.s (.k .i64 l4))), (11, .c (.s (.b r21))), (13, .c (.sl 2 0 r83.2.1)), (14, .c (.s (.er 38 .i64 r83.2.2))), (15, .c (.sl 3 0 r91.2.1)), (16, .c (.s (.er 38 .i64 r91.2.2)))], [], [⟨(.ro false), 5, 1, l0.length, .b l0⟩, ⟨(.ro false), 5, 1, l1.length, .b l1⟩, ⟨.row, 5, 1, r83.1.length, .b r83.1⟩, ⟨.row, 5, 1, r91.1.length, .b r91.1⟩]⟩) (by kernel_rfl) (allP_cons.2 ⟨g38, allP_nil⟩) ?_
                    refine W_seq ?_
                    obtain ⟨r98, g39, h⟩ := bind_some' h
                    refine W_reg hT (ftL_cons (k := 3) (f := 16) (F := (mBased_ct n r98)) (mBased_ok n r98) hI ftL_nil) [] [] [0, 1, 2, 3, 4, 11, 13, 14, 15, 16, 17, 18] [0, 1, 2, 3, 4] (s' := ⟨[(0, .c (.sl 0 0 r23.2)), (1, .c (.sl 1 0 r25.2)), (2, .c (.s (.k .i64 l2))), (3, .c (.s (.k .i64 l3))), (4, .c (.s (.k .i64 l4))), (11, .c (.s (.b r21))), (13, .c (.sl 2 0 r83.2.1)), (14, .c (.s (.er 38 .i64 r83.2.2))), (15, .c (.sl 3 0 r91.2.1)), (16, .c (.s (.er 38 .i64 r91.2.2))), (17, .c (.wh 4)), (18, .c (.s (.er 38 .i64 r98.2)))], [], [⟨(.ro false), 5, 1, l0.length, .b l0⟩, ⟨(.ro false), 5, 1, l1.length, .b l1⟩, ⟨.row, 5, 1, r83.1.length, .b r83.1⟩, ⟨.row, 5, 1, r91.1.length, .b r91.1⟩, ⟨.row, 5, 1, r98.1.length, .b r98.1⟩]⟩) (by kernel_rfl) (allP_cons.2 ⟨g39, allP_nil⟩) ?_
                    refine W_seq ?_
                    obtain ⟨g40, h⟩ := gd_some h
                    obtain ⟨r106, g41, h⟩ := bind_some' h
                    refine W_reg hT (ftL_cons (k := 4) (f := 16) (F := (mBased_ct n r106)) (mBased_ok n r106) hI ftL_nil) [] [] [3, 4, 11, 13, 14, 15, 16, 17, 18, 19, 20] [2, 3, 4, 5] (s' := ⟨[(3, .c (.s (.k .i64 l3))), (4, .c (.s (.k .i64 l4))), (11, .c (.s (.b r21))), (13, .c (.sl 0 0 r83.2.1)), (14, .c (.s (.er 38 .i64 r83.2.2))), (15, .c (.sl 1 0 r91.2.1)), (16, .c (.s (.er 38 .i64 r91.2.2))), (17, .c (.wh 2)), (18, .c (.s (.er 38 .i64 r98.2))), (19, .c (.wh 3)), (20, .c (.s (.er 38 .i64 r106.2)))], [], [⟨.row, 5, 1, r83.1.length, .b r83.1⟩, ⟨.row, 5, 1, r91.1.length, .b r91.1⟩, ⟨.row, 5, 1, r98.1.length, .b r98.1⟩, ⟨.row, 5, 1, r106.1.length, .b r106.1⟩]⟩) (by kernel_rfl) (allP_cons.2 ⟨g40, (allP_cons.2 ⟨g41, allP_nil⟩)⟩) ?_
                    refine W_seq ?_
                    rcases Bool.eq_false_or_eq_true r21 with g42 | g42
                    · replace h := bif_t h g42
                      rcases Bool.eq_false_or_eq_true ((r83.2.2).isNone) with g43 | g43
                      · replace h := bif_t h g43
                        rcases Bool.eq_false_or_eq_true ((r91.2.2).isNone) with g44 | g44
                        · replace h := bif_t h g44
                          rcases Bool.eq_false_or_eq_true ((r98.2).isNone) with g45 | g45
                          · replace h := bif_t h g45
                            rcases Bool.eq_false_or_eq_true ((r106.2).isNone) with g46 | g46
                            · replace h := bif_t h g46
                              rcases Bool.eq_false_or_eq_true (((r91.2.1 : Nat) : Int) == l4) with g47 | g47
                              · replace h := bif_t h g47
                                obtain ⟨g48, h⟩ := gd_some h
                                obtain ⟨g49, h⟩ := gd_some h
                                rcases Bool.eq_false_or_eq_true (((r83.1.drop 0).take r83.2.1) == ((r91.1.drop 0).take l3.toNat)) with g50 | g50
                                · replace h := bif_t h g50
                                  obtain ⟨g51, h⟩ := gd_some h
                                  refine W_regD hT (ftL_cons (k := 36) (f := 19) (F := sum_ct) sum_h hI ftL_nil) (by kernel_rfl) 38 [(1, true), (5, true), (9, true), (13, true), (17, true), (23, true), (32, true)] [(141, false), (143, false), (146, false)] [] [10] [] (s' := ⟨[(10, .c (.s (.b (r106.1 == (digest consts begin8 r98.1)))))], [], []⟩) (by kernel_rfl) (by kernel_rfl) (allP_cons.2 ⟨g42, (allP_cons.2 ⟨g43, (allP_cons.2 ⟨g44, (allP_cons.2 ⟨g45, (allP_cons.2 ⟨g46, (allP_cons.2 ⟨g47, (allP_cons.2 ⟨g48, (allP_cons.2 ⟨g49, (allP_cons.2 ⟨g50, (allP_cons.2 ⟨g51, allP_nil⟩)⟩)⟩)⟩)⟩)⟩)⟩)⟩)⟩)⟩) ?_
                                  refine W_co [] [10] [] (s' := (lLong_R (r106.1 == (digest consts begin8 r98.1)))) (by kernel_rfl) (W_ret ?_)
                                  exact ⟨.inl rfl, by cases h; rfl⟩
                                · replace h := bif_f h g50
                                  refine W_regD hT ftL_nil (by kernel_rfl) 38 [(1, true), (5, true), (9, true), (13, true), (17, true), (23, true), (32, false)] [(141, false), (143, false), (146, false)] [] [10] [] (s' := ⟨[(10, .c (.s (.b false)))], [], []⟩) (by kernel_rfl) (by kernel_rfl) (allP_cons.2 ⟨g42, (allP_cons.2 ⟨g43, (allP_cons.2 ⟨g44, (allP_cons.2 ⟨g45, (allP_cons.2 ⟨g46, (allP_cons.2 ⟨g47, (allP_cons.2 ⟨g48, (allP_cons.2 ⟨g49, (allP_cons.2 ⟨g50, allP_nil⟩)⟩)⟩)⟩)⟩)⟩)⟩)⟩)⟩) ?_
                                  refine W_co [] [10] [] (s' := (lLong_R false)) (by kernel_rfl) (W_ret ?_)
                                  exact ⟨.inl rfl, by cases h; rfl⟩
                              · replace h := bif_f h g47
                                refine W_regD hT ftL_nil (by kernel_rfl) 38 [(1, true), (5, true), (9, true), (13, true), (17, true), (23, false)] [(141, false), (143, false), (146, false)] [] [10] [] (s' := ⟨[(10, .c (.s (.b false)))], [], []⟩) (by kernel_rfl) (by kernel_rfl) (allP_cons.2 ⟨g42, (allP_cons.2 ⟨g43, (allP_cons.2 ⟨g44, (allP_cons.2 ⟨g45, (allP_cons.2 ⟨g46, (allP_cons.2 ⟨g47, allP_nil⟩)⟩)⟩)⟩)⟩)⟩) ?_
                                refine W_co [] [10] [] (s' := (lLong_R false)) (by kernel_rfl) (W_ret ?_)
                                exact ⟨.inl rfl, by cases h; rfl⟩
                            · replace h := bif_f h g46
                              refine W_regD hT ftL_nil (by kernel_rfl) 38 [(1, true), (5, true), (9, true), (13, true), (17, false)] [(141, false), (143, false), (146, false)] [] [10] [] (s' := ⟨[(10, .c (.s (.b false)))], [], []⟩) (by kernel_rfl) (by kernel_rfl) (allP_cons.2 ⟨g42, (allP_cons.2 ⟨g43, (allP_cons.2 ⟨g44, (allP_cons.2 ⟨g45, (allP_cons.2 ⟨g46, allP_nil⟩)⟩)⟩)⟩)⟩) ?_
                              refine W_co [] [10] [] (s' := (lLong_R false)) (by kernel_rfl) (W_ret ?_)
                              exact ⟨.inl rfl, by cases h; rfl⟩
                          · replace h := bif_f h g45
                            refine W_regD hT ftL_nil (by kernel_rfl) 38 [(1, true), (5, true), (9, true), (13, false)] [(141, false), (143, false), (146, false)] [] [10] [] (s' := ⟨[(10, .c (.s (.b false)))], [], []⟩) (by kernel_rfl) (by kernel_rfl) (allP_cons.2 ⟨g42, (allP_cons.2 ⟨g43, (allP_cons.2 ⟨g44, (allP_cons.2 ⟨g45, allP_nil⟩)⟩)⟩)⟩) ?_
                            refine W_co [] [10] [] (s' := (lLong_R false)) (by kernel_rfl) (W_ret ?_)
                            exact ⟨.inl rfl, by cases h; rfl⟩
                        · replace h := bif_f h g44
                          refine W_regD hT ftL_nil (by kernel_rfl) 38 [(1, true), (5, true), (9, false)] [(141, false), (143, false), (146, false)] [] [10] [] (s' := ⟨[(10, .c (.s (.b false)))], [], []⟩) (by kernel_rfl) (by kernel_rfl) (allP_cons.2 ⟨g42, (allP_cons.2 ⟨g43, (allP_cons.2 ⟨g44, allP_nil⟩)⟩)⟩) ?_
                          refine W_co [] [10] [] (s' := (lLong_R false)) (by kernel_rfl) (W_ret ?_)
                          exact ⟨.inl rfl, by cases h; rfl⟩
                      · replace h := bif_f h g43
                        refine W_regD hT ftL_nil (by kernel_rfl) 38 [(1, true), (5, false)] [(141, false), (143, false), (146, false)] [] [10] [] (s' := ⟨[(10, .c (.s (.b false)))], [], []⟩) (by kernel_rfl) (by kernel_rfl) (allP_cons.2 ⟨g42, (allP_cons.2 ⟨g43, allP_nil⟩)⟩) ?_
                        refine W_co [] [10] [] (s' := (lLong_R false)) (by kernel_rfl) (W_ret ?_)
                        exact ⟨.inl rfl, by cases h; rfl⟩
                    · replace h := bif_f h g42
                      refine W_regD hT ftL_nil (by kernel_rfl) 38 [(1, false)] [(141, false), (143, false), (146, false)] [] [10] [] (s' := ⟨[(10, .c (.s (.b false)))], [], []⟩) (by kernel_rfl) (by kernel_rfl) (allP_cons.2 ⟨g42, allP_nil⟩) ?_
                      refine W_co [] [10] [] (s' := (lLong_R false)) (by kernel_rfl) (W_ret ?_)
                      exact ⟨.inl rfl, by cases h; rfl⟩
    · replace h := bif_f h g5
      refine W_regD hT ftL_nil (by kernel_rfl) 11 [(3, false)] [(0, false), (1, false), (2, false), (3, false), (4, false), (11, false), (12, false), (32, false), (34, false), (39, false)] [] [0, 1, 2, 3, 4, 11, 12, 41] [0, 1, 2] (s' := ⟨[(0, .c (.sl 0 0 r23.2)), (1, .c (.sl 1 0 r25.2)), (2, .c (.s (.k .i64 l2))), (3, .c (.s (.k .i64 l3))), (4, .c (.s (.k .i64 l4))), (11, .c (.s (.b r21))), (12, .c (.wh 2)), (41, .c (.s (.b false)))], [], [⟨(.ro false), 5, 1, l0.length, .b l0⟩, ⟨(.ro false), 5, 1, l1.length, .b l1⟩, ⟨.row, 5, 1, r28.length, .b r28⟩]⟩) (by kernel_rfl) (by kernel_rfl) (allP_cons.2 ⟨g5, allP_nil⟩) ?_
      refine W_cond (b := false) (by kernel_rfl) (fun hb => by cases hb) (fun _ => ?_)
      refine W_co [] [0, 1, 2, 3, 4, 11, 12] [0, 1, 2] (s' := ⟨[(0, .c (.sl 0 0 r23.2)), (1, .c (.sl 1 0 r25.2)), (2, .c (.s (.k .i64 l2))), (3, .c (.s (.k .i64 l3))), (4, .c (.s (.k .i64 l4))), (11, .c (.s (.b r21))), (12, .c (.wh 2))], [], [⟨(.ro false), 5, 1, l0.length, .b l0⟩, ⟨(.ro false), 5, 1, l1.length, .b l1⟩, ⟨.row, 5, 1, r28.length, .b r28⟩]⟩) (by kernel_rfl) (W_skip ?_)
      refine W_seq ?_
      refine W_seq ?_
      rcases Bool.eq_false_or_eq_true (decide (((r23.2 : Nat) : Int) < (64 : Int))) with g54 | g54
      · replace h := bif_t h g54
        obtain ⟨g55, h⟩ := gd_some h
        obtain ⟨g56, h⟩ := gd_some h
        obtain ⟨r54, g57, h⟩ := bind_some' h
        refine W_regG hT (ftL_cons (k := 12) (f := 11) (F := (mMark_ct n r54)) (mMark_ok n r54) hI ftL_nil) (by kernel_rfl) [(3, true)] [0, 1, 2, 3, 4, 5, 7, 11, 13, 14, 15] [[0, 1, 2, 3, 4, 5, 7, 11], [0, 1, 2, 3, 4, 5, 6, 7, 11], [0, 1, 2, 3, 4, 5, 7, 9, 11], [0, 1, 2, 3, 4, 5, 6, 7, 8, 11], [0, 1, 2, 3, 4, 5, 6, 7, 9, 11], [0, 1, 2, 3, 4, 5, 6, 7, 8, 9, 11], [0, 1, 2, 3, 4, 5, 6, 7, 8, 9, 10, 11], [0, 1, 2, 3, 4, 5, 6, 7, 8, 9, 10, 11, 12, 13, 14, 15]] [⟨[(0, .c (.sl 0 0 r23.2)), (1, .c (.sl 1 0 r25.2)), (2, .c (.s (.k .i64 l2))), (3, .c (.s (.k .i64 l3))), (4, .c (.s (.k .i64 l4))), (11, .c (.s (.b r21))), (12, .c (.wh 2)), (42, .c (.sl 0 0 r23.2)), (43, .c (.s (.k .i64 ((r23.2 : Nat) : Int)))), (44, .c (.s (.b (decide (((r23.2 : Nat) : Int) < (64 : Int)))))), (45, .c (.s (.b true))), (46, .c (.wh 2)), (47, .c (.s (.str r28))), (49, .c (.sl 0 0 r23.2)), (53, .c (.sl 1 0 r25.2))], [], [⟨(.ro false), 5, 1, l0.length, .b l0⟩, ⟨(.ro false), 5, 1, l1.length, .b l1⟩, ⟨.row, 5, 1, r28.length, .b r28⟩]⟩, ⟨[(0, .c (.sl 0 0 r23.2)), (1, .c (.sl 1 0 r25.2)), (2, .c (.s (.k .i64 l2))), (3, .c (.s (.k .i64 l3))), (4, .c (.s (.k .i64 l4))), (11, .c (.s (.b r21))), (12, .c (.wh 2)), (45, .c (.s (.b true))), (46, .c (.wh 2)), (47, .c (.s (.str r28))), (48, .c (.wh 3)), (49, .c (.sl 0 0 r23.2)), (53, .c (.sl 1 0 r25.2))], [], [⟨(.ro false), 5, 1, l0.length, .b l0⟩, ⟨(.ro false), 5, 1, l1.length, .b l1⟩, ⟨.row, 5, 1, r28.length, .b r28⟩, ⟨.row, 5, 1, 0, .b []⟩]⟩, ⟨[(0, .c (.sl 0 0 r23.2)), (1, .c (.sl 1 0 r25.2)), (2, .c (.s (.k .i64 l2))), (3, .c (.s (.k .i64 l3))), (4, .c (.s (.k .i64 l4))), (11, .c (.s (.b r21))), (12, .c (.wh 2)), (45, .c (.s (.b true))), (46, .c (.wh 2)), (47, .c (.s (.str r28))), (49, .c (.sl 0 0 r23.2)), (51, .c (.wh 3)), (53, .c (.sl 1 0 r25.2))], [], [⟨(.ro false), 5, 1, l0.length, .b l0⟩, ⟨(.ro false), 5, 1, l1.length, .b l1⟩, ⟨.row, 5, 1, r28.length, .b r28⟩, ⟨.row, 5, 1, 1, .b [0]⟩]⟩, ⟨[(0, .c (.sl 0 0 r23.2)), (1, .c (.sl 1 0 r25.2)), (2, .c (.s (.k .i64 l2))), (3, .c (.s (.k .i64 l3))), (4, .c (.s (.k .i64 l4))), (11, .c (.s (.b r21))), (12, .c (.wh 2)), (45, .c (.s (.b true))), (46, .c (.wh 2)), (47, .c (.s (.str r28))), (50, .c (.wh 3)), (53, .c (.sl 1 0 r25.2))], [], [⟨(.ro false), 5, 1, l0.length, .b l0⟩, ⟨(.ro false), 5, 1, l1.length, .b l1⟩, ⟨.row, 5, 1, r28.length, .b r28⟩, ⟨.row, 5, 1, ([] ++ ((l0.drop 0).take r23.2)).length, .b ([] ++ ((l0.drop 0).take r23.2))⟩]⟩, ⟨[(0, .c (.sl 0 0 r23.2)), (1, .c (.sl 1 0 r25.2)), (2, .c (.s (.k .i64 l2))), (3, .c (.s (.k .i64 l3))), (4, .c (.s (.k .i64 l4))), (11, .c (.s (.b r21))), (12, .c (.wh 2)), (45, .c (.s (.b true))), (46, .c (.wh 2)), (47, .c (.s (.str r28))), (48, .c (.wh 3)), (49, .c (.sl 0 0 r23.2)), (51, .c (.wh 4)), (53, .c (.sl 1 0 r25.2))], [], [⟨(.ro false), 5, 1, l0.length, .b l0⟩, ⟨(.ro false), 5, 1, l1.length, .b l1⟩, ⟨.row, 5, 1, r28.length, .b r28⟩, ⟨.row, 5, 1, 0, .b []⟩, ⟨.row, 5, 1, 1, .b [0]⟩]⟩, ⟨[(0, .c (.sl 0 0 r23.2)), (1, .c (.sl 1 0 r25.2)), (2, .c (.s (.k .i64 l2))), (3, .c (.s (.k .i64 l3))), (4, .c (.s (.k .i64 l4))), (11, .c (.s (.b r21))), (12, .c (.wh 2)), (45, .c (.s (.b true))), (46, .c (.wh 2)), (47, .c (.s (.str r28))), (50, .c (.wh 3)), (51, .c (.wh 4)), (53, .c (.sl 1 0 r25.2))], [], [⟨(.ro false), 5, 1, l0.length, .b l0⟩, ⟨(.ro false), 5, 1, l1.length, .b l1⟩, ⟨.row, 5, 1, r28.length, .b r28⟩, ⟨.row, 5, 1, ([] ++ ((l0.drop 0).take r23.2)).length, .b ([] ++ ((l0.drop 0).take r23.2))⟩, ⟨.row, 5, 1, 1, .b [0]⟩]⟩, ⟨[(0, .c (.sl 0 0 r23.2)), (1, .c (.sl 1 0 r25.2)), (2, .c (.s (.k .i64 l2))), (3, .c (.s (.k .i64 l3))), (4, .c (.s (.k .i64 l4))), (11, .c (.s (.b r21))), (12, .c (.wh 2)), (45, .c (.s (.b true))), (46, .c (.wh 2)), (47, .c (.s (.str r28))), (52, .c (.wh 3)), (53, .c (.sl 1 0 r25.2))], [], [⟨(.ro false), 5, 1, l0.length, .b l0⟩, ⟨(.ro false), 5, 1, l1.length, .b l1⟩, ⟨.row, 5, 1, r28.length, .b r28⟩, ⟨.row, 5, 1, (([] ++ ((l0.drop 0).take r23.2)) ++ [0]).length, .b (([] ++ ((l0.drop 0).take r23.2)) ++ [0])⟩]⟩, ⟨[(0, .c (.sl 0 0 r23.2)), (1, .c (.sl 1 0 r25.2)), (2, .c (.s (.k .i64 l2))), (3, .c (.s (.k .i64 l3))), (4, .c (.s (.k .i64 l4))), (11, .c (.s (.b r21))), (12, .c (.wh 2)), (45, .c (.s (.b true))), (46, .c (.wh 2)), (47, .c (.s (.str r28))), (54, .c (.wh 3)), (55, .c (.s (.str r54))), (56, .c (.s (.b (r28 != r54)))), (57, .c (.s (.b (r28 != r54))))], [], [⟨(.ro false), 5, 1, l0.length, .b l0⟩, ⟨(.ro false), 5, 1, l1.length, .b l1⟩, ⟨.row, 5, 1, r28.length, .b r28⟩, ⟨.row, 5, 1, r54.length, .b r54⟩]⟩] [0, 1, 2, 3, 4, 5, 7, 11] [⟨0, 6, 1, [], [], [0, 1, 2, 3, 4, 11, 12, 45, 46, 47, 48, 49, 53], [0, 1, 2, 3]⟩, ⟨0, 9, 2, [], [], [0, 1, 2, 3, 4, 11, 12, 45, 46, 47, 49, 51, 53], [0, 1, 2, 3]⟩, ⟨1, 8, 3, [], [], [0, 1, 2, 3, 4, 11, 12, 45, 46, 47, 50, 53], [0, 1, 2, 4]⟩, ⟨1, 9, 4, [], [], [0, 1, 2, 3, 4, 11, 12, 45, 46, 47, 48, 49, 51, 53], [0, 1, 2, 3, 4]⟩, ⟨2, 6, 4, [], [], [0, 1, 2, 3, 4, 11, 12, 45, 46, 47, 48, 49, 51, 53], [0, 1, 2, 4, 3]⟩, ⟨3, 9, 5, [], [], [0, 1, 2, 3, 4, 11, 12, 45, 46, 47, 50, 51, 53], [0, 1, 2, 3, 4]⟩, ⟨4, 8, 5, [], [], [0, 1, 2, 3, 4, 11, 12, 45, 46, 47, 50, 51, 53], [0, 1, 2, 5, 4]⟩, ⟨5, 10, 6, [], [], [0, 1, 2, 3, 4, 11, 12, 45, 46, 47, 52, 53], [0, 1, 2, 5]⟩, ⟨6, 12, 7, [13, 14, 15], [], [0, 1, 2, 3, 4, 11, 12, 45, 46, 47, 54, 55, 56, 57], [0, 1, 2, 4]⟩] [(0, 0), (0, 1), (0, 2), (0, 3), (0, 4), (0, 5), (0, 7), (0, 11), (1, 4), (1, 5), (1, 7), (1, 11), (2, 4), (2, 5), (2, 7), (2, 11), (3, 4), (3, 5), (3, 11), (4, 4), (4, 5), (4, 7), (4, 11), (5, 4), (5, 5), (5, 11), (6, 4), (6, 5), (6, 11), (7, 4), (7, 5), (7, 13), (7, 14), (7, 15)] 7 [0, 1, 2, 3, 4, 11, 12, 42, 43, 44, 45, 46, 47, 49, 53] [0, 1, 2] [] [0, 1, 2, 3, 4, 11, 57] [0, 1] (s' := ⟨[(0, .c (.sl 0 0 r23.2)), (1, .c (.sl 1 0 r25.2)), (2, .c (.s (.k .i64 l2))), (3, .c (.s (.k .i64 l3))), (4, .c (.s (.k .i64 l4))), (11, .c (.s (.b r21))), (57, .c (.s (.b (r28 != r54))))], [], [⟨(.ro false), 5, 1, l0.length, .b l0⟩, ⟨(.ro false), 5, 1, l1.length, .b l1⟩]⟩) (by kernel_rfl) ⟨_, (by kernel_rfl), (allP_cons.2 ⟨g54, allP_nil⟩)⟩ (AllE.cons ⟨_, (by kernel_rfl), allP_nil⟩ (AllE.cons ⟨_, (by kernel_rfl), allP_nil⟩ (AllE.cons ⟨_, (by kernel_rfl), (allP_cons.2 ⟨g55, allP_nil⟩)⟩ (AllE.cons ⟨_, (by kernel_rfl), allP_nil⟩ (AllE.cons ⟨_, (by kernel_rfl), allP_nil⟩ (AllE.cons ⟨_, (by kernel_rfl), allP_nil⟩ (AllE.cons ⟨_, (by kernel_rfl), (allP_cons.2 ⟨g55, allP_nil⟩)⟩ (AllE.cons ⟨_, (by kernel_rfl), (allP_cons.2 ⟨g56, allP_nil⟩)⟩ (AllE.cons ⟨_, (by kernel_rfl), (allP_cons.2 ⟨g57, allP_nil⟩)⟩ AllE.nil))))))))) (AllR.cons ⟨_, (by kernel_rfl), allP_nil⟩ (AllR.cons ⟨_, (by kernel_rfl), allP_nil⟩ (AllR.cons ⟨_, (by kernel_rfl), allP_nil⟩ (AllR.cons ⟨_, (by kernel_rfl), (allP_cons.2 ⟨g54, allP_nil⟩)⟩ (AllR.cons ⟨_, (by kernel_rfl), allP_nil⟩ (AllR.cons ⟨_, (by kernel_rfl), allP_nil⟩ (AllR.cons ⟨_, (by kernel_rfl), allP_nil⟩ (AllR.cons ⟨_, (by kernel_rfl), allP_nil⟩ (AllR.cons ⟨_, (by kernel_rfl), allP_nil⟩ (AllR.cons ⟨_, (by kernel_rfl), allP_nil⟩ (AllR.cons ⟨_, (by kernel_rfl), allP_nil⟩ (AllR.cons ⟨_, (by kernel_rfl), allP_nil⟩ (AllR.cons ⟨_, (by kernel_rfl), allP_nil⟩ (AllR.cons ⟨_, (by kernel_rfl), allP_nil⟩ (AllR.cons ⟨_, (by kernel_rfl), allP_nil⟩ (AllR.cons ⟨_, (by kernel_rfl), allP_nil⟩ (AllR.cons ⟨_, (by kernel_rfl), allP_nil⟩ (AllR.cons ⟨_, (by kernel_rfl), allP_nil⟩ (AllR.cons ⟨_, (by kernel_rfl), allP_nil⟩ (AllR.cons ⟨_, (by kernel_rfl), allP_nil⟩ (AllR.cons ⟨_, (by kernel_rfl), allP_nil⟩ (AllR.cons ⟨_, (by kernel_rfl), allP_nil⟩ (AllR.cons ⟨_, (by kernel_rfl), allP_nil⟩ (AllR.cons ⟨_, (by kernel_rfl), allP_nil⟩ (AllR.cons ⟨_, (by kernel_rfl), allP_nil⟩ (AllR.cons ⟨_, (by kernel_rfl), allP_nil⟩ (AllR.cons ⟨_, (by kernel_rfl), allP_nil⟩ (AllR.cons ⟨_, (by kernel_rfl), allP_nil⟩ (AllR.cons ⟨_, (by kernel_rfl), allP_nil⟩ (AllR.cons ⟨_, (by kernel_rfl), allP_nil⟩ (AllR.cons ⟨_, (by kernel_rfl), allP_nil⟩ (AllR.cons ⟨_, (by kernel_rfl), allP_nil⟩ (AllR.cons ⟨_, (by kernel_rfl), allP_nil⟩ (AllR.cons ⟨_, (by kernel_rfl), allP_nil⟩ AllR.nil)))))))))))))))))))))))))))))))))) (by kernel_rfl) ?_
        refine W_cond (b := (r28 != r54)) (by kernel_rfl) (fun g78 => ?_) (fun g78 => ?_)
        · replace h := bif_t h g78
          refine W_seq ?_
          refine W_reg hT ftL_nil [] [] [10] [] (s' := ⟨[(10, .c (.s (.b false)))], [], []⟩) (by kernel_rfl) allP_nil ?_
          refine W_co [] [10] [] (s' := (lLong_R false)) (by kernel_rfl) (W_ret ?_)
          exact ⟨.inl rfl, by cases h; rfl⟩
        · replace h := bif_f h g78
          refine W_co [] [0, 1, 2, 3, 4, 11] [0, 1] (s' := ⟨[(0, .c (.sl 0 0 r23.2)), (1, .c (.sl 1 0 r25.2)), (2, .c (.s (.k .i64 l2))), (3, .c (.s (.k .i64 l3))), (4, .c (.s (.k .i64 l4))), (11, .c (.s (.b r21)))], [], [⟨(.ro false), 5, 1, l0.length, .b l0⟩, ⟨(.ro false), 5, 1, l1.length, .b l1⟩]⟩) (by kernel_rfl) (W_skip ?_)
          refine W_seq ?_
          refine W_seq ?_
          rcases Bool.eq_false_or_eq_true (decide (l2 < (1 : Int))) with g58 | g58
          · replace h := bif_t h g58
            refine W_reg hT ftL_nil [(2, true)] [] [0, 1, 2, 3, 4, 11, 76] [0, 1] (s' := ⟨[(0, .c (.sl 0 0 r23.2)), (1, .c (.sl 1 0 r25.2)), (2, .c (.s (.k .i64 l2))), (3, .c (.s (.k .i64 l3))), (4, .c (.s (.k .i64 l4))), (11, .c (.s (.b r21))), (76, .c (.s (.b true)))], [], [⟨(.ro false), 5, 1, l0.length, .b l0⟩, ⟨(.ro false), 5, 1, l1.length, .b l1⟩]⟩) (by kernel_rfl) (allP_cons.2 ⟨g58, allP_nil⟩) ?_
            refine W_cond (b := true) (by kernel_rfl) (fun _ => ?_) (fun hb => by cases hb)
            refine W_seq ?_
            refine W_reg hT ftL_nil [] [] [10] [] (s' := ⟨[(10, .c (.s (.b r21)))], [], []⟩) (by kernel_rfl) allP_nil ?_
            refine W_co [] [10] [] (s' := (lLong_R r21)) (by kernel_rfl) (W_ret ?_)
            exact ⟨.inl rfl, by cases h; rfl⟩
          · replace h := bif_f h g58
            rcases Bool.eq_false_or_eq_true (decide ((6 : Int) < l2)) with g59 | g59
            · replace h := bif_t h g59
              refine W_reg hT ftL_nil [(2, false), (6, true)] [] [0, 1, 2, 3, 4, 11, 76] [0, 1] (s' := ⟨[(0, .c (.sl 0 0 r23.2)), (1, .c (.sl 1 0 r25.2)), (2, .c (.s (.k .i64 l2))), (3, .c (.s (.k .i64 l3))), (4, .c (.s (.k .i64 l4))), (11, .c (.s (.b r21))), (76, .c (.s (.b true)))], [], [⟨(.ro false), 5, 1, l0.length, .b l0⟩, ⟨(.ro false), 5, 1, l1.length, .b l1⟩]⟩) (by kernel_rfl) (allP_cons.2 ⟨g58, (allP_cons.2 ⟨g59, allP_nil⟩)⟩) ?_
              refine W_cond (b := true) (by kernel_rfl) (fun _ => ?_) (fun hb => by cases hb)
              refine W_seq ?_
              refine W_reg hT ftL_nil [] [] [10] [] (s' := ⟨[(10, .c (.s (.b r21)))], [], []⟩) (by kernel_rfl) allP_nil ?_
              refine W_co [] [10] [] (s' := (lLong_R r21)) (by kernel_rfl) (W_ret ?_)
              exact ⟨.inl rfl, by cases h; rfl⟩
            · replace h := bif_f h g59
              rcases Bool.eq_false_or_eq_true (decide (l3 < (0 : Int))) with g60 | g60
              · replace h := bif_t h g60
                refine W_reg hT ftL_nil [(2, false), (6, false), (10, true)] [] [0, 1, 2, 3, 4, 11, 76] [0, 1] (s' := ⟨[(0, .c (.sl 0 0 r23.2)), (1, .c (.sl 1 0 r25.2)), (2, .c (.s (.k .i64 l2))), (3, .c (.s (.k .i64 l3))), (4, .c (.s (.k .i64 l4))), (11, .c (.s (.b r21))), (76, .c (.s (.b true)))], [], [⟨(.ro false), 5, 1, l0.length, .b l0⟩, ⟨(.ro false), 5, 1, l1.length, .b l1⟩]⟩) (by kernel_rfl) (allP_cons.2 ⟨g58, (allP_cons.2 ⟨g59, (allP_cons.2 ⟨g60, allP_nil⟩)⟩)⟩) ?_
                refine W_cond (b := true) (by kernel_rfl) (fun _ => ?_) (fun hb => by cases hb)
                refine W_seq ?_
                refine W_reg hT ftL_nil [] [] [10] [] (s' := ⟨[(10, .c (.s (.b r21)))], [], []⟩) (by kernel_rfl) allP_nil ?_
                refine W_co [] [10] [] (s' := (lLong_R r21)) (by kernel_rfl) (W_ret ?_)
                exact ⟨.inl rfl, by cases h; rfl⟩
              · replace h := bif_f h g60
                rcases Bool.eq_false_or_eq_true (decide (l4 < l3)) with g61 | g61
                · replace h := bif_t h g61
                  refine W_reg hT ftL_nil [(2, false), (6, false), (10, false), (15, true)] [] [0, 1, 2, 3, 4, 11, 76] [0, 1] (s' := ⟨[(0, .c (.sl 0 0 r23.2)), (1, .c (.sl 1 0 r25.2)), (2, .c (.s (.k .i64 l2))), (3, .c (.s (.k .i64 l3))), (4, .c (.s (.k .i64 l4))), (11, .c (.s (.b r21))), (76, .c (.s (.b true)))], [], [⟨(.ro false), 5, 1, l0.length, .b l0⟩, ⟨(.ro false), 5, 1, l1.length, .b l1⟩]⟩) (by kernel_rfl) (allP_cons.2 ⟨g58, (allP_cons.2 ⟨g59, (allP_cons.2 ⟨g60, (allP_cons.2 ⟨g61, allP_nil⟩)⟩)⟩)⟩) ?_
                  refine W_cond (b := true) (by kernel_rfl) (fun _ => ?_) (fun hb => by cases hb)
                  refine W_seq ?_
                  refine W_reg hT ftL_nil [] [] [10] [] (s' := ⟨[(10, .c (.s (.b r21)))], [], []⟩) (by kernel_rfl) allP_nil ?_
                  refine W_co [] [10] [] (s' := (lLong_R r21)) (by kernel_rfl) (W_ret ?_)
                  exact ⟨.inl rfl, by cases h; rfl⟩
                · replace h := bif_f h g61
                  refine W_reg hT ftL_nil [(2, false), (6, false), (10, false), (15, false)] [] [0, 1, 2, 3, 4, 11, 76] [0, 1] (s' := ⟨[(0, .c (.sl 0 0 r23.2)), (1, .c (.sl 1 0 r25.2)), (2, .c (.s (.k .i64 l2))), (3, .c (.s (.k .i64 l3))), (4, .c (.s (.k .i64 l4))), (11, .c (.s (.b r21))), (76, .c (.s (.b (decide ((256 : Int) < l4)))))], [], [⟨(.ro false), 5, 1, l0.length, .b l0⟩, ⟨(.ro false), 5, 1, l1.length, .b l1⟩]⟩) (by kernel_rfl) (allP_cons.2 ⟨g58, (allP_cons.2 ⟨g59, (allP_cons.2 ⟨g60, (allP_cons.2 ⟨g61, allP_nil⟩)⟩)⟩)⟩) ?_
                  refine W_cond (b := (decide ((256 : Int) < l4))) (by kernel_rfl) (fun g77 => ?_) (fun g77 => ?_)
                  · replace h := bif_t h g77
                    refine W_seq ?_
                    refine W_reg hT ftL_nil [] [] [10] [] (s' := ⟨[(10, .c (.s (.b r21)))], [], []⟩) (by kernel_rfl) allP_nil ?_
                    refine W_co [] [10] [] (s' := (lLong_R r21)) (by kernel_rfl) (W_ret ?_)
                    exact ⟨.inl rfl, by cases h; rfl⟩
                  · replace h := bif_f h g77
                    refine W_co [] [0, 1, 2, 3, 4, 11] [0, 1] (s' := ⟨[(0, .c (.sl 0 0 r23.2)), (1, .c (.sl 1 0 r25.2)), (2, .c (.s (.k .i64 l2))), (3, .c (.s (.k .i64 l3))), (4, .c (.s (.k .i64 l4))), (11, .c (.s (.b r21)))], [], [⟨(.ro false), 5, 1, l0.length, .b l0⟩, ⟨(.ro false), 5, 1, l1.length, .b l1⟩]⟩) (by kernel_rfl) (W_skip ?_)
                    refine W_seq ?_
                    obtain ⟨r83, g62, h⟩ := bind_some' h
                    refine W_reg hT (ftL_cons (k := 4) (f := 14) (F := (mDerive_ct n r83)) (mDerive_ok n r83) hI ftL_nil) [] [] [0, 1, 2, 3, 4, 11, 13, 14] [0, 1, 2] (s' := ⟨[(0, .c (.sl 0 0 r23.2)), (1, .c (.sl 1 0 r25.2)), (2, .c (.s (.k .i64 l2))), (3, .c (.s (.k .i64 l3))), (4, .c (.s (.k .i64 l4))), (11, .c (.s (.b r21))), (13, .c (.sl 2 0 r83.2.1)), (14, .c (.s (.er 38 .i64 r83.2.2)))], [], [⟨(.ro false), 5, 1, l0.length, .b l0⟩, ⟨(.ro false), 5, 1, l1.length, .b l1⟩, ⟨.row, 5, 1, r83.1.length, .b r83.1⟩]⟩) (by kernel_rfl) (allP_cons.2 ⟨g62, allP_nil⟩) ?_
                    refine W_seq ?_
                    obtain ⟨r91, g63, h⟩ := bind_some' h
                    refine W_reg hT (ftL_cons (k := 4) (f := 14) (F := (mDerive_ct n r91)) (mDerive_ok n r91) hI ftL_nil) [] [] [0, 1, 2, 3, 4, 11, 13, 14, 15, 16] [0, 1, 2, 3] (s' := ⟨[(0, .c (.sl 0 0 r23.2)), (1, .c (.sl 1 0 r25.2)), (2, .c (.s (.k .i64 l2))), (3, .c (.s (.k .i64 l3))), (4, .c (.s (.k .i64 l4))), (11, .c (.s (.b r21))), (13, .c (.sl 2 0 r83.2.1)), (14, .c (.s (.er 38 .i64 r83.2.2))), (15, .c (.sl 3 0 r91.2.1)), (16, .c (.s (.er 38 .i64 r91.2.2)))], [], [⟨(.ro false), 5, 1, l0.length, .b l0⟩, ⟨(.ro false), 5, 1, l1.length, .b l1⟩, ⟨.row, 5, 1, r83.1.length, .b r83.1⟩, ⟨.row, 5, 1, r91.1.length, .b r91.1⟩]⟩) (by kernel_rfl) (allP_cons.2 ⟨g63, allP_nil⟩) ?_
                    refine W_seq ?_
                    obtain ⟨r98, g64, h⟩ := bind_some' h
                    refine W_reg hT (ftL_cons (k := 3) (f := 16) (F := (mBased_ct n r98)) (mBased_ok n r98) hI ftL_nil) [] [] [0, 1, 2, 3, 4, 11, 13, 14, 15, 16, 17, 18] [0, 1, 2, 3, 4] (s' := ⟨[(0, .c (.sl 0 0 r23.2)), (1, .c (.sl 1 0 r25.2)), (2, .c (.s (.k .i64 l2))), (3, .c (.s (.k .i64 l3))), (4, .c (.s (.k .i64 l4))), (11, .c (.s (.b r21))), (13, .c (.sl 2 0 r83.2.1)), (14, .c (.s (.er 38 .i64 r83.2.2))), (15, .c (.sl 3 0 r91.2.1)), (16, .c (.s (.er 38 .i64 r91.2.2))), (17, .c (.wh 4)), (18, .c (.s (.er 38 .i64 r98.2)))], [], [⟨(.ro false), 5, 1, l0.length, .b l0⟩, ⟨(.ro false), 5, 1, l1.length, .b l1⟩, ⟨.row, 5, 1, r83.1.length, .b r83.1⟩, ⟨.row, 5, 1, r91.1.length, .b r91.1⟩, ⟨.row, 5, 1, r98.1.length, .b r98.1⟩]⟩) (by kernel_rfl) (allP_cons.2 ⟨g64, allP_nil⟩) ?_
                    refine W_seq ?_
                    obtain ⟨g65, h⟩ := gd_some h
                    obtain ⟨r106, g66, h⟩ := bind_some' h
                    refine W_reg hT (ftL_cons (k := 4) (f := 16) (F := (mBased_ct n r106)) (mBased_ok n r106) hI ftL_nil) [] [] [3, 4, 11, 13, 14, 15, 16, 17, 18, 19, 20] [2, 3, 4, 5] (s' := ⟨[(3, .c (.s (.k .i64 l3))), (4, .c (.s (.k .i64 l4))), (11, .c (.s (.b r21))), (13, .c (.sl 0 0 r83.2.1)), (14, .c (.s (.er 38 .i64 r83.2.2))), (15, .c (.sl 1 0 r91.2.1)), (16, .c (.s (.er 38 .i64 r91.2.2))), (17, .c (.wh 2)), (18, .c (.s (.er 38 .i64 r98.2))), (19, .c (.wh 3)), (20, .c (.s (.er 38 .i64 r106.2)))], [], [⟨.row, 5, 1, r83.1.length, .b r83.1⟩, ⟨.row, 5, 1, r91.1.length, .b r91.1⟩, ⟨.row, 5, 1, r98.1.length, .b r98.1⟩, ⟨.row, 5, 1, r106.1.length, .b r106.1⟩]⟩) (by kernel_rfl) (allP_cons.2 ⟨g65, (allP_cons.2 ⟨g66, allP_nil⟩)⟩) ?_
                    refine W_seq ?_
                    rcases Bool.eq_false_or_eq_true r21 with g67 | g67
                    · replace h := bif_t h g67
                      rcases Bool.eq_false_or_eq_true ((r83.2.2).isNone) with g68 | g68
                      · replace h := bif_t h g68
                        rcases Bool.eq_false_or_eq_true ((r91.2.2).isNone) with g69 | g69
                        · replace h := bif_t h g69
                          rcases Bool.eq_false_or_eq_true ((r98.2).isNone) with g70 | g70
                          · replace h := bif_t h g70
                            rcases Bool.eq_false_or_eq_true ((r106.2).isNone) with g71 | g71
                            · replace h := bif_t h g71
                              rcases Bool.eq_false_or_eq_true (((r91.2.1 : Nat) : Int) == l4) with g72 | g72
                              · replace h := bif_t h g72
                                obtain ⟨g73, h⟩ := gd_some h
                                obtain ⟨g74, h⟩ := gd_some h
                                rcases Bool.eq_false_or_eq_true (((r83.1.drop 0).take r83.2.1) == ((r91.1.drop 0).take l3.toNat)) with g75 | g75
                                · replace h := bif_t h g75
                                  obtain ⟨g76, h⟩ := gd_some h
                                  refine W_regD hT (ftL_cons (k := 36) (f := 19) (F := sum_ct) sum_h hI ftL_nil) (by kernel_rfl) 38 [(1, true), (5, true), (9, true), (13, true), (17, true), (23, true), (32, true)] [(141, false), (143, false), (146, false)] [] [10] [] (s' := ⟨[(10, .c (.s (.b (r106.1 == (digest consts begin8 r98.1)))))], [], []⟩) (by kernel_rfl) (by kernel_rfl) (allP_cons.2 ⟨g67, (allP_cons.2 ⟨g68, (allP_cons.2 ⟨g69, (allP_cons.2 ⟨g70, (allP_cons.2 ⟨g71, (allP_cons.2 ⟨g72, (allP_cons.2 ⟨g73, (allP_cons.2 ⟨g74, (allP_cons.2 ⟨g75, (allP_cons.2 ⟨g76, allP_nil⟩)⟩)⟩)⟩)⟩)⟩)⟩)⟩)⟩)⟩) ?_
                                  refine W_co [] [10] [] (s' := (lLong_R (r106.1 == (digest consts begin8 r98.1)))) (by kernel_rfl) (W_ret ?_)
                                  exact ⟨.inl rfl, by cases h; rfl⟩
                                · replace h := bif_f h g75
                                  refine W_regD hT ftL_nil (by kernel_rfl) 38 [(1, true), (5, true), (9, true), (13, true), (17, true), (23, true), (32, false)] [(141, false), (143, false), (146, false)] [] [10] [] (s' := ⟨[(10, .c (.s (.b false)))], [], []⟩) (by kernel_rfl) (by kernel_rfl) (allP_cons.2 ⟨g67, (allP_cons.2 ⟨g68, (allP_cons.2 ⟨g69, (allP_cons.2 ⟨g70, (allP_cons.2 ⟨g71, (allP_cons.2 ⟨g72, (allP_cons.2 ⟨g73, (allP_cons.2 ⟨g74, (allP_cons.2 ⟨g75, allP_nil⟩)⟩)⟩)⟩)⟩)⟩)⟩)⟩)⟩) ?_
                                  refine W_co [] [10] [] (s' := (lLong_R false)) (by kernel_rfl) (W_ret ?_)
                                  exact ⟨.inl rfl, by cases h; rfl⟩
                              · replace h := bif_f h g72
                                refine W_regD hT ftL_nil (by kernel_rfl) 38 [(1, true), (5, true), (9, true), (13, true), (17, true), (23, false)] [(141, false), (143, false), (146, false)] [] [10] [] (s' := ⟨[(10, .c (.s (.b false)))], [], []⟩) (by kernel_rfl) (by kernel_rfl) (allP_cons.2 ⟨g67, (allP_cons.2 ⟨g68, (allP_cons.2 ⟨g69, (allP_cons.2 ⟨g70, (allP_cons.2 ⟨g71, (allP_cons.2 ⟨g72, allP_nil⟩)⟩)⟩)⟩)⟩)⟩) ?_
                                refine W_co [] [10] [] (s' := (lLong_R false)) (by kernel_rfl) (W_ret ?_)
                                exact ⟨.inl rfl, by cases h; rfl⟩
                            · replace h := bif_f h g71
                              refine W_regD hT ftL_nil (by kernel_rfl) 38 [(1, true), (5, true), (9, true), (13, true), (17, false)] [(141, false), (143, false), (146, false)] [] [10] [] (s' := ⟨[(10, .c (.s (.b false)))], [], []⟩) (by kernel_rfl) (by kernel_rfl) (allP_cons.2 ⟨g67, (allP_cons.2 ⟨g68, (allP_cons.2 ⟨g69, (allP_cons.2 ⟨g70, (allP_cons.2 ⟨g71, allP_nil⟩)⟩)⟩)⟩)⟩) ?_
                              refine W_co [] [10] [] (s' := (lLong_R false)) (by kernel_rfl) (W_ret ?_)
                              exact ⟨.inl rfl, by cases h; rfl⟩
                          · replace h := bif_f h g70
                            refine W_regD hT ftL_nil (by kernel_rfl) 38 [(1, true), (5, true), (9, true), (13, false)] [(141, false), (143, false), (146, false)] [] [10] [] (s' := ⟨[(10, .c (.s (.b false)))], [], []⟩) (by kernel_rfl) (by kernel_rfl) (allP_cons.2 ⟨g67, (allP_cons.2 ⟨g68, (allP_cons.2 ⟨g69, (allP_cons.2 ⟨g70, allP_nil⟩)⟩)⟩)⟩) ?_
                            refine W_co [] [10] [] (s' := (lLong_R false)) (by kernel_rfl) (W_ret ?_)
                            exact ⟨.inl rfl, by cases h; rfl⟩
                        · replace h := bif_f h g69
                          refine W_regD hT ftL_nil (by kernel_rfl) 38 [(1, true), (5, true), (9, false)] [(141, false), (143, false), (146, false)] [] [10] [] (s' := ⟨[(10, .c (.s (.b false)))], [], []⟩) (by kernel_rfl) (by kernel_rfl) (allP_cons.2 ⟨g67, (allP_cons.2 ⟨g68, (allP_cons.2 ⟨g69, allP_nil⟩)⟩)⟩) ?_
                          refine W_co [] [10] [] (s' := (lLong_R false)) (by kernel_rfl) (W_ret ?_)
                          exact ⟨.inl rfl, by cases h; rfl⟩
                      · replace h := bif_f h g68
                        refine W_regD hT ftL_nil (by kernel_rfl) 38 [(1, true), (5, false)] [(141, false), (143, false), (146, false)] [] [10] [] (s' := ⟨[(10, .c (.s (.b false)))], [], []⟩) (by kernel_rfl) (by kernel_rfl) (allP_cons.2 ⟨g67, (allP_cons.2 ⟨g68, allP_nil⟩)⟩) ?_
                        refine W_co [] [10] [] (s' := (lLong_R false)) (by kernel_rfl) (W_ret ?_)
                        exact ⟨.inl rfl, by cases h; rfl⟩
                    · replace h := bif_f h g67
                      refine W_regD hT ftL_nil (by kernel_rfl) 38 [(1, false)] [(141, false), (143, false), (146, false)] [] [10] [] (s' := ⟨[(10, .c (.s (.b false)))], [], []⟩) (by kernel_rfl) (by kernel_rfl) (allP_cons.2 ⟨g67, allP_nil⟩) ?_
                      refine W_co [] [10] [] (s' := (lLong_R false)) (by kernel_rfl) (W_ret ?_)
                      exact ⟨.inl rfl, by cases h; rfl⟩
      · replace h := bif_f h g54
        refine W_regG hT ftL_nil (by kernel_rfl) [(3, false)] [0, 1, 2, 3, 4, 5, 6, 7, 8, 9, 10, 11, 12, 13, 14, 15] [[0, 1, 2, 3, 4, 5, 6, 7, 8, 9, 10, 11, 12, 13, 14, 15]] [⟨[(0, .c (.sl 0 0 r23.2)), (1, .c (.sl 1 0 r25.2)), (2, .c (.s (.k .i64 l2))), (3, .c (.s (.k .i64 l3))), (4, .c (.s (.k .i64 l4))), (11, .c (.s (.b r21))), (12, .c (.wh 2)), (42, .c (.sl 0 0 r23.2)), (43, .c (.s (.k .i64 ((r23.2 : Nat) : Int)))), (44, .c (.s (.b (decide (((r23.2 : Nat) : Int) < (64 : Int)))))), (45, .c (.s (.b false))), (46, .t []), (47, .t []), (48, .t []), (49, .t []), (50, .t []), (51, .t []), (52, .t []), (53, .t []), (54, .t []), (55, .t []), (56, .t []), (57, .c (.s (.b false)))], [], [⟨(.ro false), 5, 1, l0.length, .b l0⟩, ⟨(.ro false), 5, 1, l1.length, .b l1⟩, ⟨.row, 5, 1, r28.length, .b r28⟩]⟩] [0, 1, 2, 3, 4, 5, 6, 7, 8, 9, 10, 11, 12, 13, 14, 15] [] [(0, 0), (0, 1), (0, 2), (0, 3), (0, 4), (0, 5), (0, 6), (0, 7), (0, 8), (0, 9), (0, 10), (0, 11), (0, 12), (0, 13), (0, 14), (0, 15)] 0 [0, 1, 2, 3, 4, 11, 12, 42, 43, 44, 45, 46, 47, 48, 49, 50, 51, 52, 53, 54, 55, 56, 57] [0, 1, 2] [] [0, 1, 2, 3, 4, 11, 57] [0, 1] (s' := ⟨[(0, .c (.sl 0 0 r23.2)), (1, .c (.sl 1 0 r25.2)), (2, .c (.s (.k .i64 l2))), (3, .c (.s (.k .i64 l3))), (4, .c (.s (.k .i64 l4))), (11, .c (.s (.b r21))), (57, .c (.s (.b false)))], [], [⟨(.ro false), 5, 1, l0.length, .b l0⟩, ⟨(.ro false), 5, 1, l1.length, .b l1⟩]⟩) (by kernel_rfl) ⟨_, (by kernel_rfl), (allP_cons.2 ⟨g54, allP_nil⟩)⟩ AllE.nil (AllR.cons ⟨_, (by kernel_rfl), allP_nil⟩ (AllR.cons ⟨_, (by kernel_rfl), allP_nil⟩ (AllR.cons ⟨_, (by kernel_rfl), allP_nil⟩ (AllR.cons ⟨_, (by kernel_rfl), (allP_cons.2 ⟨g54, allP_nil⟩)⟩ (AllR.cons ⟨_, (by kernel_rfl), allP_nil⟩ (AllR.cons ⟨_, (by kernel_rfl), allP_nil⟩ (AllR.cons ⟨_, (by kernel_rfl), allP_nil⟩ (AllR.cons ⟨_, (by kernel_rfl), allP_nil⟩ (AllR.cons ⟨_, (by kernel_rfl), allP_nil⟩ (AllR.cons ⟨_, (by kernel_rfl), allP_nil⟩ (AllR.cons ⟨_, (by kernel_rfl), allP_nil⟩ (AllR.cons ⟨_, (by kernel_rfl), allP_nil⟩ (AllR.cons ⟨_, (by kernel_rfl), allP_nil⟩ (AllR.cons ⟨_, (by kernel_rfl), allP_nil⟩ (AllR.cons ⟨_, (by kernel_rfl), allP_nil⟩ (AllR.cons ⟨_, (by kernel_rfl), allP_nil⟩ AllR.nil)))))))))))))))) (by kernel_rfl) ?_
        refine W_cond (b := false) (by kernel_rfl) (fun hb => by cases hb) (fun _ => ?_)
        refine W_co [] [0, 1, 2, 3, 4, 11] [0, 1] (s' := ⟨[(0, .c (.sl 0 0 r23.2)), (1, .c (.sl 1 0 r25.2)), (2, .c (.s (.k .i64 l2))), (3, .c (.s (.k .i64 l3))), (4, .c (.s (.k .i64 l4))), (11, .c (.s (.b r21)))], [], [⟨(.ro false), 5, 1, l0.length, .b l0⟩, ⟨(.ro false), 5, 1, l1.length, .b l1⟩]⟩) (by kernel_rfl) (W_skip ?_)
        refine W_seq ?_
        refine W_seq ?_
        rcases Bool.eq_false_or_eq_true (decide (l2 < (1 : Int))) with g79 | g79
        · replace h := bif_t h g79
          refine W_reg hT ftL_nil [(2, true)] [] [0, 1, 2, 3, 4, 11, 76] [0, 1] (s' := ⟨[(0, .c (.sl 0 0 r23.2)), (1, .c (.sl 1 0 r25.2)), (2, .c (.s (.k .i64 l2))), (3, .c (.s (.k .i64 l3))), (4, .c (.s (.k .i64 l4))), (11, .c (.s (.b r21))), (76, .c (.s (.b true)))], [], [⟨(.ro false), 5, 1, l0.length, .b l0⟩, ⟨(.ro false), 5, 1, l1.length, .b l1⟩]⟩) (by kernel_rfl) (allP_cons.2 ⟨g79, allP_nil⟩) ?_
          refine W_cond (b := true) (by kernel_rfl) (fun _ => ?_) (fun hb => by cases hb)
          refine W_seq ?_
          refine W_reg hT ftL_nil [] [] [10] [] (s' := ⟨[(10, .c (.s (.b r21)))], [], []⟩) (by kernel_rfl) allP_nil ?_
          refine W_co [] [10] [] (s' := (lLong_R r21)) (by kernel_rfl) (W_ret ?_)
          exact ⟨.inl rfl, by cases h; rfl⟩
        · replace h := bif_f h g79
          rcases Bool.eq_false_or_eq_true (decide ((6 : Int) < l2)) with g80 | g80
          · replace h := bif_t h g80
            refine W_reg hT ftL_nil [(2, false), (6, true)] [] [0, 1, 2, 3, 4, 11, 76] [0, 1] (s' := ⟨[(0, .c (.sl 0 0 r23.2)), (1, .c (.sl 1 0 r25.2)), (2, .c (.s (.k .i64 l2))), (3, .c (.s (.k .i64 l3))), (4, .c (.s (.k .i64 l4))), (11, .c (.s (.b r21))), (76, .c (.s (.b true)))], [], [⟨(.ro false), 5, 1, l0.length, .b l0⟩, ⟨(.ro false), 5, 1, l1.length, .b l1⟩]⟩) (by kernel_rfl) (allP_cons.2 ⟨g79, (allP_cons.2 ⟨g80, allP_nil⟩)⟩) ?_
            refine W_cond (b := true) (by kernel_rfl) (fun _ => ?_) (fun hb => by cases hb)
            refine W_seq ?_
            refine W_reg hT ftL_nil [] [] [10] [] (s' := ⟨[(10, .c (.s (.b r21)))], [], []⟩) (by kernel_rfl) allP_nil ?_
            refine W_co [] [10] [] (s' := (lLong_R r21)) (by kernel_rfl) (W_ret ?_)
            exact ⟨.inl rfl, by cases h; rfl⟩
          · replace h := bif_f h g80
            rcases Bool.eq_false_or_eq_true (decide (l3 < (0 : Int))) with g81 | g81
            · replace h := bif_t h g81
              refine W_reg hT ftL_nil [(2, false), (6, false), (10, true)] [] [0, 1, 2, 3, 4, 11, 76] [0, 1] (s' := ⟨[(0, .c (.sl 0 0 r23.2)), (1, .c (.sl 1 0 r25.2)), (2, .c (.s (.k .i64 l2))), (3, .c (.s (.k .i64 l3))), (4, .c (.s (.k .i64 l4))), (11, .c (.s (.b r21))), (76, .c (.s (.b true)))], [], [⟨(.ro false), 5, 1, l0.length, .b l0⟩, ⟨(.ro false), 5, 1, l1.length, .b l1⟩]⟩) (by kernel_rfl) (allP_cons.2 ⟨g79, (allP_cons.2 ⟨g80, (allP_cons.2 ⟨g81, allP_nil⟩)⟩)⟩) ?_
              refine W_cond (b := true) (by kernel_rfl) (fun _ => ?_) (fun hb => by cases hb)
              refine W_seq ?_
              refine W_reg hT ftL_nil [] [] [10] [] (s' := ⟨[(10, .c (.s (.b r21)))], [], []⟩) (by kernel_rfl) allP_nil ?_
              refine W_co [] [10] [] (s' := (lLong_R r21)) (by kernel_rfl) (W_ret ?_)
              exact ⟨.inl rfl, by cases h; rfl⟩
            · replace h := bif_f h g81
              rcases Bool.eq_false_or_eq_true (decide (l4 < l3)) with g82 | g82
              · replace h := bif_t h g82
                refine W_reg hT ftL_nil [(2, false), (6, false), (10, false), (15, true)] [] [0, 1, 2, 3, 4, 11, 76] [0, 1] (s' := ⟨[(0, .c (.sl 0 0 r23.2)), (1, .c (.sl 1 0 r25.2)), (2, .c (.s (.k .i64 l2))), (3, .c (.s (.k .i64 l3))), (4, .c (.s (.k .i64 l4))), (11, .c (.s (.b r21))), (76, .c (.s (.b true)))], [], [⟨(.ro false), 5, 1, l0.length, .b l0⟩, ⟨(.ro false), 5, 1, l1.length, .b l1⟩]⟩) (by kernel_rfl) (allP_cons.2 ⟨g79, (allP_cons.2 ⟨g80, (allP_cons.2 ⟨g81, (allP_cons.2 ⟨g82, allP_nil⟩)⟩)⟩)⟩) ?_
                refine W_cond (b := true) (by kernel_rfl) (fun _ => ?_) (fun hb => by cases hb)
                refine W_seq ?_
                refine W_reg hT ftL_nil [] [] [10] [] (s' := ⟨[(10, .c (.s (.b r21)))], [], []⟩) (by kernel_rfl) allP_nil ?_
                refine W_co [] [10] [] (s' := (lLong_R r21)) (by kernel_rfl) (W_ret ?_)
                exact ⟨.inl rfl, by cases h; rfl⟩
              · replace h := bif_f h g82
                refine W_reg hT ftL_nil [(2, false), (6, false), (10, false), (15, false)] [] [0, 1, 2, 3, 4, 11, 76] [0, 1] (s' := ⟨[(0, .c (.sl 0 0 r23.2)), (1, .c (.sl 1 0 r25.2)), (2, .c (.s (.k .i64 l2))), (3, .c (.s (.k .i64 l3))), (4, .c (.s (.k .i64 l4))), (11, .c (.s (.b r21))), (76, .c (.s (.b (decide ((256 : Int) < l4)))))], [], [⟨(.ro false), 5, 1, l0.length, .b l0⟩, ⟨(.ro false), 5, 1, l1.length, .b l1⟩]⟩) (by kernel_rfl) (allP_cons.2 ⟨g79, (allP_cons.2 ⟨g80, (allP_cons.2 ⟨g81, (allP_cons.2 ⟨g82, allP_nil⟩)⟩)⟩)⟩) ?_
                refine W_cond (b := (decide ((256 : Int) < l4))) (by kernel_rfl) (fun g98 => ?_) (fun g98 => ?_)
                · replace h := bif_t h g98
                  refine W_seq ?_
                  refine W_reg hT ftL_nil [] [] [10] [] (s' := ⟨[(10, .c (.s (.b r21)))], [], []⟩) (by kernel_rfl) allP_nil ?_
                  refine W_co [] [10] [] (s' := (lLong_R r21)) (by kernel_rfl) (W_ret ?_)
                  exact ⟨.inl rfl, by cases h; rfl⟩
                · replace h := bif_f h g98
                  refine W_co [] [0, 1, 2, 3, 4, 11] [0, 1] (s' := ⟨[(0, .c (.sl 0 0 r23.2)), (1, .c (.sl 1 0 r25.2)), (2, .c (.s (.k .i64 l2))), (3, .c (.s (.k .i64 l3))), (4, .c (.s (.k .i64 l4))), (11, .c (.s (.b r21)))], [], [⟨(.ro false), 5, 1, l0.length, .b l0⟩, ⟨(.ro false), 5, 1, l1.length, .b l1⟩]⟩) (by kernel_rfl) (W_skip ?_)
                  refine W_seq ?_
                  obtain ⟨r83, g83, h⟩ := bind_some' h
                  refine W_reg hT (ftL_cons (k := 4) (f := 14) (F := (mDerive_ct n r83)) (mDerive_ok n r83) hI ftL_nil) [] [] [0, 1, 2, 3, 4, 11, 13, 14] [0, 1, 2] (s' := ⟨[(0, .c (.sl 0 0 r23.2)), (1, .c (.sl 1 0 r25.2)), (2, .c (.s (.k .i64 l2))), (3, .c (.s (.k .i64 l3))), (4, .c (.s (.k .i64 l4))), (11, .c (.s (.b r21))), (13, .c (.sl 2 0 r83.2.1)), (14, .c (.s (.er 38 .i64 r83.2.2)))], [], [⟨(.ro false), 5, 1, l0.length, .b l0⟩, ⟨(.ro false), 5, 1, l1.length, .b l1⟩, ⟨.row, 5, 1, r83.1.length, .b r83.1⟩]⟩) (by kernel_rfl) (allP_cons.2 ⟨g83, allP_nil⟩) ?_
                  refine W_seq ?_
                  obtain ⟨r91, g84, h⟩ := bind_some' h
                  refine W_reg hT (ftL_cons (k := 4) (f := 14) (F := (mDerive_ct n r91)) (mDerive_ok n r91) hI ftL_nil) [] [] [0, 1, 2, 3, 4, 11, 13, 14, 15, 16] [0, 1, 2, 3] (s' := ⟨[(0, .c (.sl 0 0 r23.2)), (1, .c (.sl 1 0 r25.2)), (2, .c (.s (.k .i64 l2))), (3, .c (.s (.k .i64 l3))), (4, .c (.s (.k .i64 l4))), (11, .c (.s (.b r21))), (13, .c (.sl 2 0 r83.2.1)), (14, .c (.s (.er 38 .i64 r83.2.2))), (15, .c (.sl 3 0 r91.2.1)), (16, .c (.s (.er 38 .i64 r91.2.2)))], [], [⟨(.ro false), 5, 1, l0.length, .b l0⟩, ⟨(.ro false), 5, 1, l1.length, .b l1⟩, ⟨.row, 5, 1, r83.1.length, .b r83.1⟩, ⟨.row, 5, 1, r91.1.length, .b r91.1⟩]⟩) (by kernel_rfl) (allP_cons.2 ⟨g84, allP_nil⟩) ?_
                  refine W_seq ?_
                  obtain ⟨r98, g85, h⟩ := bind_some' h
                  refine W_reg hT (ftL_cons (k := 3) (f := 16) (F := (mBased_ct n r98)) (mBased_ok n r98) hI ftL_nil) [] [] [0, 1, 2, 3, 4, 11, 13, 14, 15, 16, 17, 18] [0, 1, 2, 3, 4] (s' := ⟨[(0, .c (.sl 0 0 r23.2)), (1, .c (.sl 1 0 r25.2)), (2, .c (.s (.k .i64 l2))), (3, .c (.s (.k .i64 l3))), (4, .c (.s (.k .i64 l4))), (11, .c (.s (.b r21))), (13, .c (.sl 2 0 r83.2.1)), (14, .c (.s (.er 38 .i64 r83.2.2))), (15, .c (.sl 3 0 r91.2.1)), (16, .c (.s (.er 38 .i64 r91.2.2))), (17, .c (.wh 4)), (18, .c (.s (.er 38 .i64 r98.2)))], [], [⟨(.ro false), 5, 1, l0.length, .b l0⟩, ⟨(.ro false), 5, 1, l1.length, .b l1⟩, ⟨.row, 5, 1, r83.1.length, .b r83.1⟩, ⟨.row, 5, 1, r91.1.length, .b r91.1⟩, ⟨.row, 5, 1, r98.1.length, .b r98.1⟩]⟩) (by kernel_rfl) (allP_cons.2 ⟨g85, allP_nil⟩) ?_
                  refine W_seq ?_
                  obtain ⟨g86, h⟩ := gd_some h
                  obtain ⟨r106, g87, h⟩ := bind_some' h
                  refine W_reg hT (ftL_cons (k := 4) (f := 16) (F := (mBased_ct n r106)) (mBased_ok n r106) hI ftL_nil) [] [] [3, 4, 11, 13, 14, 15, 16, 17, 18, 19, 20] [2, 3, 4, 5] (s' := ⟨[(3, .c (.s (.k .i64 l3))), (4, .c (.s (.k .i64 l4))), (11, .c (.s (.b r21))), (13, .c (.sl 0 0 r83.2.1)), (14, .c (.s (.er 38 .i64 r83.2.2))), (15, .c (.sl 1 0 r91.2.1)), (16, .c (.s (.er 38 .i64 r91.2.2))), (17, .c (.wh 2)), (18, .c (.s (.er 38 .i64 r98.2))), (19, .c (.wh 3)), (20, .c (.s (.er 38 .i64 r106.2)))], [], [⟨.row, 5, 1, r83.1.length, .b r83.1⟩, ⟨.row, 5, 1, r91.1.length, .b r91.1⟩, ⟨.row, 5, 1, r98.1.length, .b r98.1⟩, ⟨.row, 5, 1, r106.1.length, .b r106.1⟩]⟩) (by kernel_rfl) (allP_cons.2 ⟨g86, (allP_cons.2 ⟨g87, allP_nil⟩)⟩) ?_
                  refine W_seq ?_
                  rcases Bool.eq_false_or_eq_true r21 with g88 | g88
                  · replace h := bif_t h g88
                    rcases Bool.eq_false_or_eq_true ((r83.2.2).isNone) with g89 | g89
                    · replace h := bif_t h g89
                      rcases Bool.eq_false_or_eq_true ((r91.2.2).isNone) with g90 | g90
                      · replace h := bif_t h g90
                        rcases Bool.eq_false_or_eq_true ((r98.2).isNone) with g91 | g91
                        · replace h := bif_t h g91
                          rcases Bool.eq_false_or_eq_true ((r106.2).isNone) with g92 | g92
                          · replace h := bif_t h g92
                            rcases Bool.eq_false_or_eq_true (((r91.2.1 : Nat) : Int) == l4) with g93 | g93
                            · replace h := bif_t h g93
                              obtain ⟨g94, h⟩ := gd_some h
                              obtain ⟨g95, h⟩ := gd_some h
                              rcases Bool.eq_false_or_eq_true (((r83.1.drop 0).take r83.2.1) == ((r91.1.drop 0).take l3.toNat)) with g96 | g96
                              · replace h := bif_t h g96
                                obtain ⟨g97, h⟩ := gd_some h
                                refine W_regD hT (ftL_cons (k := 36) (f := 19) (F := sum_ct) sum_h hI ftL_nil) (by kernel_rfl) 38 [(1, true), (5, true), (9, true), (13, true), (17, true), (23, true), (32, true)] [(141, false), (143, false), (146, false)] [] [10] [] (s' := ⟨[(10, .c (.s (.b (r106.1 == (digest consts begin8 r98.1)))))], [], []⟩) (by kernel_rfl) (by kernel_rfl) (allP_cons.2 ⟨g88, (allP_cons.2 ⟨g89, (allP_cons.2 ⟨g90, (allP_cons.2 ⟨g91, (allP_cons.2 ⟨g92, (allP_cons.2 ⟨g93, (allP_cons.2 ⟨g94, (allP_cons.2 ⟨g95, (allP_cons.2 ⟨g96, (allP_cons.2 ⟨g97, allP_nil⟩)⟩)⟩)⟩)⟩)⟩)⟩)⟩)⟩)⟩) ?_
                                refine W_co [] [10] [] (s' := (lLong_R (r106.1 == (digest consts begin8 r98.1)))) (by kernel_rfl) (W_ret ?_)
                                exact ⟨.inl rfl, by cases h; rfl⟩
                              · replace h := bif_f h g96
                                refine W_regD hT ftL_nil (by kernel_rfl) 38 [(1, true), (5, true), (9, true), (13, true), (17, true), (23, true), (32, false)] [(141, false), (143, false), (146, false)] [] [10] [] (s' := ⟨[(10, .c (.s (.b false)))], [], []⟩) (by kernel_rfl) (by kernel_rfl) (allP_cons.2 ⟨g88, (allP_cons.2 ⟨g89, (allP_cons.2 ⟨g90, (allP_cons.2 ⟨g91, (allP_cons.2 ⟨g92, (allP_cons.2 ⟨g93, (allP_cons.2 ⟨g94, (allP_cons.2 ⟨g95, (allP_cons.2 ⟨g96, allP_nil⟩)⟩)⟩)⟩)⟩)⟩)⟩)⟩)⟩) ?_
                                refine W_co [] [10] [] (s' := (lLong_R false)) (by kernel_rfl) (W_ret ?_)
                                exact ⟨.inl rfl, by cases h; rfl⟩
                            · replace h := bif_f h g93
                              refine W_regD hT ftL_nil (by kernel_rfl) 38 [(1, true), (5, true), (9, true), (13, true), (17, true), (23, false)] [(141, false), (143, false), (146, false)] [] [10] [] (s' := ⟨[(10, .c (.s (.b false)))], [], []⟩) (by kernel_rfl) (by kernel_rfl) (allP_cons.2 ⟨g88, (allP_cons.2 ⟨g89, (allP_cons.2 ⟨g90, (allP_cons.2 ⟨g91, (allP_cons.2 ⟨g92, (allP_cons.2 ⟨g93, allP_nil⟩)⟩)⟩)⟩)⟩)⟩) ?_
                              refine W_co [] [10] [] (s' := (lLong_R false)) (by kernel_rfl) (W_ret ?_)
                              exact ⟨.inl rfl, by cases h; rfl⟩
                          · replace h := bif_f h g92
                            refine W_regD hT ftL_nil (by kernel_rfl) 38 [(1, true), (5, true), (9, true), (13, true), (17, false)] [(141, false), (143, false), (146, false)] [] [10] [] (s' := ⟨[(10, .c (.s (.b false)))], [], []⟩) (by kernel_rfl) (by kernel_rfl) (allP_cons.2 ⟨g88, (allP_cons.2 ⟨g89, (allP_cons.2 ⟨g90, (allP_cons.2 ⟨g91, (allP_cons.2 ⟨g92, allP_nil⟩)⟩)⟩)⟩)⟩) ?_
                            refine W_co [] [10] [] (s' := (lLong_R false)) (by kernel_rfl) (W_ret ?_)
                            exact ⟨.inl rfl, by cases h; rfl⟩
                        · replace h := bif_f h g91
                          refine W_regD hT ftL_nil (by kernel_rfl) 38 [(1, true), (5, true), (9, true), (13, false)] [(141, false), (143, false), (146, false)] [] [10] [] (s' := ⟨[(10, .c (.s (.b false)))], [], []⟩) (by kernel_rfl) (by kernel_rfl) (allP_cons.2 ⟨g88, (allP_cons.2 ⟨g89, (allP_cons.2 ⟨g90, (allP_cons.2 ⟨g91, allP_nil⟩)⟩)⟩)⟩) ?_
                          refine W_co [] [10] [] (s' := (lLong_R false)) (by kernel_rfl) (W_ret ?_)
                          exact ⟨.inl rfl, by cases h; rfl⟩
                      · replace h := bif_f h g90
                        refine W_regD hT ftL_nil (by kernel_rfl) 38 [(1, true), (5, true), (9, false)] [(141, false), (143, false), (146, false)] [] [10] [] (s' := ⟨[(10, .c (.s (.b false)))], [], []⟩) (by kernel_rfl) (by kernel_rfl) (allP_cons.2 ⟨g88, (allP_cons.2 ⟨g89, (allP_cons.2 ⟨g90, allP_nil⟩)⟩)⟩) ?_
                        refine W_co [] [10] [] (s' := (lLong_R false)) (by kernel_rfl) (W_ret ?_)
                        exact ⟨.inl rfl, by cases h; rfl⟩
                    · replace h := bif_f h g89
                      refine W_regD hT ftL_nil (by kernel_rfl) 38 [(1, true), (5, false)] [(141, false), (143, false), (146, false)] [] [10] [] (s' := ⟨[(10, .c (.s (.b false)))], [], []⟩) (by kernel_rfl) (by kernel_rfl) (allP_cons.2 ⟨g88, (allP_cons.2 ⟨g89, allP_nil⟩)⟩) ?_
                      refine W_co [] [10] [] (s' := (lLong_R false)) (by kernel_rfl) (W_ret ?_)
                      exact ⟨.inl rfl, by cases h; rfl⟩
                  · replace h := bif_f h g88
                    refine W_regD hT ftL_nil (by kernel_rfl) 38 [(1, false)] [(141, false), (143, false), (146, false)] [] [10] [] (s' := ⟨[(10, .c (.s (.b false)))], [], []⟩) (by kernel_rfl) (by kernel_rfl) (allP_cons.2 ⟨g88, allP_nil⟩) ?_
                    refine W_co [] [10] [] (s' := (lLong_R false)) (by kernel_rfl) (W_ret ?_)
                    exact ⟨.inl rfl, by cases h; rfl⟩
  · rintro e s' ⟨he, rfl⟩
    refine ⟨he, fun a' w' hr => ?_⟩
    exact retS_ok tabO_mvlong hr (rs := [.tmp 10]) rfl (objs := []) (by kernel_rfl)
end Go.Proofs.YtamddohbpdbdmaaDoor
end
section
set_option linter.unusedVariables false
set_option linter.unusedSimpArgs false
namespace Go.Sx
open Go Go.RowKit Go.Ch Go.Proofs.YtamddohbpdbdmaaDoor
theorem hmac_long {k b : List UInt8} (h : 64 < k.length) : hmac (Dg k) b = hmac k b := by
  have e : hkey (Dg k) = hkey k := by
    unfold hkey; rw [if_pos h, if_neg (by rw [Dg_len]; omega)]
  unfold hmac; rw [e]
theorem hmac_short {k b : List UInt8} (h : k.length < 64) : hmac (k ++ [0]) b = hmac k b := by
  have e : padk (hkey (k ++ [0])) = padk (hkey k) := by
    unfold hkey
    rw [if_neg (by simp; omega), if_neg (by omega)]
    unfold padk
    rw [List.length_append, List.length_singleton, List.append_assoc, show 64 - k.length = (64 - (k.length + 1)) + 1 by omega, List.replicate_succ]; rfl
  unfold hmac; rw [e]
theorem long_tail (K B : List UInt8) (l0 : K.length ≤ 500) (l1 : B.length ≤ 500) (a2 a3 a4 : Int) (q1 : 1 ≤ a2) (q2 : a2 ≤ 6) (q3 : 0 ≤ a3) (q4 : a3 ≤ a4) (q5 : a4 ≤ 256) :
    ((mDerive N64 K B a2 a3).bind fun r83 =>
                (mDerive N64 K B a2 a4).bind fun r91 =>
                  (mBased N64 K B a2).bind fun r98 =>
                    gd (okI IntKind.i64 (a2 + 1))
                      ((mBased N64 K B (a2 + 1)).bind fun r106 =>
                        bif true then
                          bif r83.2.2.isNone then
                            bif r91.2.2.isNone then
                              bif r98.2.isNone then
                                bif r106.2.isNone then
                                  bif ((r91.2.1 : Nat) : Int) == a4 then
                                    gd (0 ≤ a3)
                                      (gd (a3 ≤ ((r91.2.1 : Nat) : Int))
                                        (bif
                                            ((r83.1.drop 0).take r83.2.1) ==
                                              ((r91.1.drop 0).take a3.toNat) then
                                          gd (r98.1.length ≤ 100000) (some (r106.1 == digest consts begin8 r98.1))
                                        else some false))
                                  else some false
                                else some false
                              else some false
                            else some false
                          else some false
                        else some false)) =
    some true := by
  obtain ⟨r, rfl⟩ := Int.eq_ofNat_of_zero_le (show 0 ≤ a2 by omega)
  obtain ⟨p, rfl⟩ := Int.eq_ofNat_of_zero_le q3
  obtain ⟨q, rfl⟩ := Int.eq_ofNat_of_zero_le (show 0 ≤ a4 by omega)
  have hb := baseN_len (Dg_len (K ++ B)) (r - 1)
  have e1 : ((r : Int) + 1) = ((r + 1 : Nat) : Int) := by omega
  have e2 : r + 1 - 1 = (r - 1) + 1 := by omega
  rw [mDerive_is (by decide) (by omega) (by omega) (by omega) (by omega) (by omega), Option.bind_some, mDerive_is (by decide) (by omega) (by omega) (by omega) (by omega) (by omega), Option.bind_some,
    mBased_is (by decide) (by omega) (by omega) (by omega) (by omega), Option.bind_some, gd_pos (okI64 (by omega) (by omega)), e1, mBased_is (by decide) (by omega) (by omega) (by omega) (by omega), Option.bind_some, e2]
  dsimp only
  have e3 : ((outS K B r ((p + 31) / 32)).drop 0).take p = ((outS K B r ((q + 31) / 32)).drop 0).take p := by
    rw [List.drop_zero, List.drop_zero]
    exact (outS_take K B r (show (p + 31) / 32 ≤ (q + 31) / 32 by omega) p (by omega)).symm
  rw [Int.toNat_natCast, e3, gd_pos (by omega), gd_pos (by omega), gd_pos (by omega)]
  simp [baseN]
theorem lLong_is (a0 a1 : List UInt8) (a2 a3 a4 : Int) : lLong N64 a0 a1 a2 a3 a4 = some true := by
  obtain ⟨m0, e0, l0, k0⟩ := mcut_is N64 a0 500
  obtain ⟨m1, e1, l1, k1⟩ := mcut_is N64 a1 500
  rw [show ((500 : Nat) : Int) = 500 from rfl] at e0 e1
  unfold lLong
  rw [mup_is, Option.bind_some, e0, Option.bind_some, e1, Option.bind_some]
  dsimp only
  generalize (a0.drop 0).take m0 = K at *
  generalize (a1.drop 0).take m1 = B at *
  rw [mMark_is (by decide) (by omega) (by omega), Option.bind_some]
  subst k0
  by_cases h : 64 < K.length
  · rw [ite_t (by simp; omega), gd_pos (by omega), mMark_is (by decide) (by rw [length_digest]; omega) (by omega), Option.bind_some, hmac_long h, ite_f (by simp), ite_f (by simp; omega)]
    by_cases q1 : a2 < 1
    · rw [ite_t (by simpa using q1)]
    · rw [ite_f (by simpa using q1)]
      by_cases q2 : 6 < a2
      · rw [ite_t (by simpa using q2)]
      · rw [ite_f (by simpa using q2)]
        by_cases q3 : a3 < 0
        · rw [ite_t (by simpa using q3)]
        · rw [ite_f (by simpa using q3)]
          by_cases q4 : a4 < a3
          · rw [ite_t (by simpa using q4)]
          · rw [ite_f (by simpa using q4)]
            by_cases q5 : 256 < a4
            · rw [ite_t (by simpa using q5)]
            · rw [ite_f (by simpa using q5)]
              exact long_tail K B (by omega) (by omega) a2 a3 a4 (by omega) (by omega) (by omega) (by omega) (by omega)
  · rw [ite_f (by simp; omega)]
    by_cases h2 : K.length < 64
    · rw [ite_t (by simp; omega), gd_pos (by unfold rmB; omega), gd_pos (by unfold rmB; simp; omega), List.nil_append, mMark_is (by decide) (by simp; omega) (by omega), Option.bind_some, hmac_short h2, ite_f (by simp)]
      by_cases q1 : a2 < 1
      · rw [ite_t (by simpa using q1)]
      · rw [ite_f (by simpa using q1)]
        by_cases q2 : 6 < a2
        · rw [ite_t (by simpa using q2)]
        · rw [ite_f (by simpa using q2)]
          by_cases q3 : a3 < 0
          · rw [ite_t (by simpa using q3)]
          · rw [ite_f (by simpa using q3)]
            by_cases q4 : a4 < a3
            · rw [ite_t (by simpa using q4)]
            · rw [ite_f (by simpa using q4)]
              by_cases q5 : 256 < a4
              · rw [ite_t (by simpa using q5)]
              · rw [ite_f (by simpa using q5)]
                exact long_tail K B (by omega) (by omega) a2 a3 a4 (by omega) (by omega) (by omega) (by omega) (by omega)
    · rw [ite_f (by simp; omega)]
      by_cases q1 : a2 < 1
      · rw [ite_t (by simpa using q1)]
      · rw [ite_f (by simpa using q1)]
        by_cases q2 : 6 < a2
        · rw [ite_t (by simpa using q2)]
        · rw [ite_f (by simpa using q2)]
          by_cases q3 : a3 < 0
          · rw [ite_t (by simpa using q3)]
          · rw [ite_f (by simpa using q3)]
            by_cases q4 : a4 < a3
            · rw [ite_t (by simpa using q4)]
            · rw [ite_f (by simpa using q4)]
              by_cases q5 : 256 < a4
              · rw [ite_t (by simpa using q5)]
              · rw [ite_f (by simpa using q5)]
                exact long_tail K B (by omega) (by omega) a2 a3 a4 (by omega) (by omega) (by omega) (by omega) (by omega)
end Go.Sx
namespace Go.Proofs.YtamddohbpdbdmaaDoor
open Go.RowKit Go.Ch Go.Sx
theorem macLong_c (w : World) (B0 : Nat) (v0 : Value) (l0 : List UInt8) (hv0 : Sl w B0 v0 (l0.map bU)) (B1 : Nat) (v1 : Value) (l1 : List UInt8) (hv1 : Sl w B1 v1 (l1.map bU)) (n2 : Int) (hn2 : (Lit.int .i64 n2).wf = true) (n3 : Int) (hn3 : (Lit.int .i64 n3).wf = true) (n4 : Int) (hn4 : (Lit.int .i64 n4).wf = true) (hG : GK w) :
    Calls Tryd.prog 7 #[v0, v1, .int .i64 n2, .int .i64 n3, .int .i64 n4] w (Ret fun v' w' => Ext w w' ∧ v' = .bool true) := by
  obtain ⟨p0, a0, b0⟩ := in_b hv0 5
  obtain ⟨p1, a1, b1⟩ := in_b hv1 5
  have r2 : -9223372036854775808 ≤ n2 ∧ n2 < 9223372036854775808 := by simp [Lit.wf, IntKind.min, IntKind.max, IntKind.signed, IntKind.bits] at hn2; omega
  have r3 : -9223372036854775808 ≤ n3 ∧ n3 < 9223372036854775808 := by simp [Lit.wf, IntKind.min, IntKind.max, IntKind.signed, IntKind.bits] at hn3; omega
  have r4 : -9223372036854775808 ≤ n4 ∧ n4 < 9223372036854775808 := by simp [Lit.wf, IntKind.min, IntKind.max, IntKind.signed, IntKind.bits] at hn4; omega
  exact law_of (lLong_ok N64 true) (args := [.c (.wh 0), .c (.wh 1), .c (.s (.k .i64 n2)), .c (.s (.k .i64 n3)), .c (.s (.k .i64 n4))]) (H := [⟨.ro false, 5, 1, l0.length, .b l0⟩, ⟨.ro false, 5, 1, l1.length, .b l1⟩]) (ρ := plL [p0, p1]) (vals := [v0, v1, .int .i64 n2, .int .i64 n3, .int .i64 n4]) rfl (allP_cons.2 ⟨lLong_is l0 l1 n2 n3 n4, allP_nil⟩) hG (hpL (ps := [p0, p1]) (F2.cons b0 (F2.cons b1 F2.nil))) (F2.cons a0 (F2.cons a1 (F2.cons rfl (F2.cons rfl (F2.cons rfl F2.nil)))))
end Go.Proofs.YtamddohbpdbdmaaDoor
end
