import Derived.Test.YtamddohbpdbdmaaDoorZ6
import Derived.Test.YtamddohbpdbdmaaDoorProg
section
set_option linter.unusedVariables false
set_option linter.unusedSimpArgs false
namespace Go.Proofs.YtamddohbpdbdmaaDoor
open Go.RowKit Go.Ch Go.Sx

def tabL_mvbases : List (TypeId × Ti) := [(3, ⟨.int .i64, 1, 8, true, some [.int .i64]⟩),
  (5, ⟨.int .u8, 1, 1, true, some [.int .u8]⟩),
  (9, ⟨.str, 1, 16, true, some [.str]⟩),
  (22, ⟨.sl 5, 1, 24, false, some [.nils]⟩),
  (35, ⟨.ifc, 1, 16, true, some [.ifc]⟩),
  (38, ⟨.int .i64, 1, 8, true, some [.int .i64]⟩)]
def tab_mvbases : Tab := fun t => (tabL_mvbases).lookup t
theorem tabE_mvbases : (tabL_mvbases.map fun p => tiOf Tryd.prog p.1) = tabL_mvbases.map fun p => some p.2 := by kernel_rfl
theorem tabO_mvbases : TabOk Tryd.prog tab_mvbases := tab_of tabE_mvbases

def lBases_j1 (n : Nat) (a0 : List UInt8) (a1 : List UInt8) (r10 : Bool) (r12 : List UInt8 × Nat) (r14 : List UInt8 × Nat) (i2_2 : Int) : Option (Bool) :=
  (mBased n ((a0.drop 0).take r12.2) ((a1.drop 0).take r14.2) i2_2).bind fun r27_2 =>
  bif (decide (i2_2 < (1 : Int))) then
    bif r10 then
      gd (¬((r27_2.2 : Option Int) = none ∧ ((some 1) : Option Int) = none)) <|
      bif (r27_2.2 == (some 1)) then
        some (((r27_2.1.length : Nat) : Int) == 0)
      else
        some false
    else
      some false
  else
    bif (decide ((10000 : Int) < i2_2)) then
      bif r10 then
        gd (¬((r27_2.2 : Option Int) = none ∧ ((some 4) : Option Int) = none)) <|
        bif (r27_2.2 == (some 4)) then
          some (((r27_2.1.length : Nat) : Int) == 0)
        else
          some false
      else
        some false
    else
      bif r10 then
        bif ((r27_2.2).isNone) then
          (made n).bind fun r64 =>
          (rBased n r64.1 r64.2.1 r64.2.2.1 r64.2.2.2.1 r64.2.2.2.2.1 r64.2.2.2.2.2.1 r64.2.2.2.2.2.2.1 r64.2.2.2.2.2.2.2.1 r64.2.2.2.2.2.2.2.2 ((a0.drop 0).take r12.2) ((a1.drop 0).take r14.2) i2_2).bind fun r68_2 =>
          some (r27_2.1 == r68_2)
        else
          some false
      else
        some false
def lBases (n : Nat) (a0 : List UInt8) (a1 : List UInt8) (a2 : Int) : Option (Bool) :=
  (mup n).bind fun r10 =>
  (mcut n a0 200).bind fun r12 =>
  (mcut n a1 200).bind fun r14 =>
  bif (decide ((20 : Int) < a2)) then
    bif (decide (a2 ≤ (10000 : Int))) then
      gd ((21 : Int) ≠ 0) <|
      lBases_j1 n a0 a1 r10 r12 r14 (Int.tmod a2 21)
    else
      lBases_j1 n a0 a1 r10 r12 r14 a2
  else
    lBases_j1 n a0 a1 r10 r12 r14 a2

def lBases_j1_E (a0 : List UInt8) (a1 : List UInt8) (r10 : Bool) (r12 : List UInt8 × Nat) (r14 : List UInt8 × Nat) (i2_2 : Int) : S := ⟨[(0, .c (.wh 0)), (1, .c (.wh 1)), (2, .c (.s (.k .i64 i2_2))), (7, .c (.s (.b r10)))], [], [⟨(.ro false), 5, 1, r12.2, .b ((a0.drop 0).take r12.2)⟩, ⟨(.ro false), 5, 1, r14.2, .b ((a1.drop 0).take r14.2)⟩]⟩
def lBases_j1_P (n : Nat) (a0 : List UInt8) (a1 : List UInt8) (r10 : Bool) (r12 : List UInt8 × Nat) (r14 : List UInt8 × Nat) (r : Bool) : S → Prop := fun s => ∃ (i2_2 : Int), s = lBases_j1_E a0 a1 r10 r12 r14 i2_2 ∧ lBases_j1 n a0 a1 r10 r12 r14 i2_2 = some r
theorem lBases_j1_M {n : Nat} {a0 : List UInt8} {a1 : List UInt8} {r10 : Bool} {r12 : List UInt8 × Nat} {r14 : List UInt8 × Nat} {i2_2 : Int} {r : Bool} (h : lBases_j1 n a0 a1 r10 r12 r14 i2_2 = some r) : lBases_j1_P n a0 a1 r10 r12 r14 r (lBases_j1_E a0 a1 r10 r12 r14 i2_2) := ⟨i2_2, rfl, h⟩
def lBases_R (r : Bool) : S := ⟨[(6, .c (.s (.b r)))], [], []⟩
def lBases_ct (n : Nat) (r : Bool) : Ct := fun args H => match args with
  | [x0, x1, x2] => (match aB H x0 with | some l0 => (match aB H x1 with | some l1 => (match aI x2 with | some l2 => some ([lBases n l0 l1 l2 = some r], shA H.length (.c (.s (.b r))), shH H.length []) | none => none) | none => none) | none => none)
  | _ => none
theorem lBases_ok (n : Nat) (r : Bool) : FnOk Tryd.prog GK 5 (lBases_ct n r) := by
  refine ⟨fun args H g av objs hF hg ρ w vals hG hp ha => ?_, _, Tryd.func5, by kernel_rfl, by kernel_rfl⟩
  obtain ⟨x0, x1, x2, rfl⟩ : ∃ x0 x1 x2, args = [x0, x1, x2] := by
    unfold lBases_ct at hF; split at hF
    · exact ⟨_, _, _, rfl⟩
    · cases hF
  cases e0 : aB H x0 with
  | none => simp only [lBases_ct, e0, reduceCtorEq] at hF
  | some l0 =>
  cases e1 : aB H x1 with
  | none => simp only [lBases_ct, e0, e1, reduceCtorEq] at hF
  | some l1 =>
  cases e2 : aI x2 with
  | none => simp only [lBases_ct, e0, e1, e2, reduceCtorEq] at hF
  | some l2 =>
  simp only [lBases_ct, e0, e1, e2, Option.some.injEq, Prod.mk.injEq] at hF
  obtain ⟨rfl, rfl, rfl⟩ := hF
  obtain ⟨v0, vals, rfl, k0, ha⟩ := F2.inv ha
  obtain ⟨v1, vals, rfl, k1, ha⟩ := F2.inv ha
  obtain ⟨v2, vals, rfl, k2, ha⟩ := F2.inv ha
  obtain rfl := F2.inv0 ha
  have hI : ∀ w', Kp (noB (fun _ => undef)) w w' → GK w' := fun _ hk => GK.keep hk.below hG
  have h : lBases n l0 l1 l2 = some r := hg
  obtain ⟨p0, s0, o0⟩ := aB_ok hp e0 (k0) 5
  obtain ⟨p1, s1, o1⟩ := aB_ok hp e1 (k1) 5
  have s2 := aI_ok e2 (k2)
  have hR0 := rel0 (gv := (fun _ => undef)) (n := 72) (w := w) (args := [.c (.wh 0), .c (.wh 1), .c (.s (.k .i64 l2))]) (H := [⟨.ro false, 5, 1, l0.length, .b l0⟩, ⟨.ro false, 5, 1, l1.length, .b l1⟩]) (gl := []) (hpL (ps := [p0, p1]) (F2.cons o0 (F2.cons o1 F2.nil))) (allRo_ok rfl) (F2.cons s0 (F2.cons s1 (F2.cons s2 F2.nil))) GlR.nil (by simp)
  clear ha hp hg k0 k1 k2 e0 e1 e2
  refine calls_W Tryd.func5 rfl rfl hR0 (Q := fun e s => (e = .ret ∨ e = .normal) ∧ s = lBases_R r) ?_ ?_
  · clear hR0
    unfold lBases at h
    have hT := tabO_mvbases
    refine W_seq ?_
    refine W_reg hT ftL_nil [] [] [0, 1, 2] [0, 1] (s' := ⟨[(0, .c (.wh 0)), (1, .c (.wh 1)), (2, .c (.s (.k .i64 l2)))], [], [⟨(.ro false), 5, 1, l0.length, .b l0⟩, ⟨(.ro false), 5, 1, l1.length, .b l1⟩]⟩) (by kernel_rfl) allP_nil ?_
    refine W_seq ?_
    obtain ⟨r10, g1, h⟩ := bind_some' h
    refine W_reg hT (ftL_cons (k := 0) (f := 9) (F := (mup_ct n r10)) (mup_ok n r10) hI ftL_nil) [] [] [0, 1, 2, 7] [0, 1] (s' := ⟨[(0, .c (.wh 0)), (1, .c (.wh 1)), (2, .c (.s (.k .i64 l2))), (7, .c (.s (.b r10)))], [], [⟨(.ro false), 5, 1, l0.length, .b l0⟩, ⟨(.ro false), 5, 1, l1.length, .b l1⟩]⟩) (by kernel_rfl) (allP_cons.2 ⟨g1, allP_nil⟩) ?_
    refine W_seq ?_
    obtain ⟨r12, g2, h⟩ := bind_some' h
    refine W_reg hT (ftL_cons (k := 1) (f := 10) (F := (mcut_ct n r12)) (mcut_ok n r12) (fun _ _ => True.intro) ftL_nil) [] [] [0, 1, 2, 7] [0, 1] (s' := ⟨[(0, .c (.sl 0 0 r12.2)), (1, .c (.wh 1)), (2, .c (.s (.k .i64 l2))), (7, .c (.s (.b r10)))], [], [⟨(.ro false), 5, 1, l0.length, .b l0⟩, ⟨(.ro false), 5, 1, l1.length, .b l1⟩]⟩) (by kernel_rfl) (allP_cons.2 ⟨g2, allP_nil⟩) ?_
    refine W_seq ?_
    obtain ⟨r14, g3, h⟩ := bind_some' h
    refine W_reg hT (ftL_cons (k := 1) (f := 10) (F := (mcut_ct n r14)) (mcut_ok n r14) (fun _ _ => True.intro) ftL_nil) [] [] [0, 1, 2, 7] [0, 1] (s' := ⟨[(0, .c (.sl 0 0 r12.2)), (1, .c (.sl 1 0 r14.2)), (2, .c (.s (.k .i64 l2))), (7, .c (.s (.b r10)))], [], [⟨(.ro false), 5, 1, l0.length, .b l0⟩, ⟨(.ro false), 5, 1, l1.length, .b l1⟩]⟩) (by kernel_rfl) (allP_cons.2 ⟨g3, allP_nil⟩) ?_
    refine W_join (lBases_j1_P n l0 l1 r10 r12 r14 r) ?_ ?_
    · rintro _ ⟨i2_2, rfl, h⟩
      unfold lBases_j1 at h
      refine W_seq ?_
      obtain ⟨r27_2, g4, h⟩ := bind_some' h
      refine W_reg hT (ftL_cons (k := 3) (f := 16) (F := (mBased_ct n r27_2)) (mBased_ok n r27_2) hI ftL_nil) [] [] [0, 1, 2, 7, 8, 9] [0, 1, 2] (s' := ⟨[(0, .c (.wh 0)), (1, .c (.wh 1)), (2, .c (.s (.k .i64 i2_2))), (7, .c (.s (.b r10))), (8, .c (.wh 2)), (9, .c (.s (.er 38 .i64 r27_2.2)))], [], [⟨(.ro false), 5, 1, r12.2, .b ((l0.drop 0).take r12.2)⟩, ⟨(.ro false), 5, 1, r14.2, .b ((l1.drop 0).take r14.2)⟩, ⟨.row, 5, 1, r27_2.1.length, .b r27_2.1⟩]⟩) (by kernel_rfl) (allP_cons.2 ⟨g4, allP_nil⟩) ?_
      refine W_seq ?_
      refine W_seq ?_
      refine W_reg hT ftL_nil [] [] [0, 1, 2, 7, 8, 9, 31] [0, 1, 2] (s' := ⟨[(0, .c (.wh 0)), (1, .c (.wh 1)), (2, .c (.s (.k .i64 i2_2))), (7, .c (.s (.b r10))), (8, .c (.wh 2)), (9, .c (.s (.er 38 .i64 r27_2.2))), (31, .c (.s (.b (decide (i2_2 < (1 : Int))))))], [], [⟨(.ro false), 5, 1, r12.2, .b ((l0.drop 0).take r12.2)⟩, ⟨(.ro false), 5, 1, r14.2, .b ((l1.drop 0).take r14.2)⟩, ⟨.row, 5, 1, r27_2.1.length, .b r27_2.1⟩]⟩) (by kernel_rfl) allP_nil ?_
      refine W_cond (b := (decide (i2_2 < (1 : Int)))) (by kernel_rfl) (fun g16 => ?_) (fun g16 => ?_)
      · replace h := bif_t h g16
        refine W_seq ?_
        rcases Bool.eq_false_or_eq_true r10 with g5 | g5
        · replace h := bif_t h g5
          obtain ⟨g6, h⟩ := gd_some h
          rcases Bool.eq_false_or_eq_true (r27_2.2 == (some 1)) with g7 | g7
          · replace h := bif_t h g7
            refine W_reg hT ftL_nil [(1, true), (6, true)] [] [6] [] (s' := ⟨[(6, .c (.s (.b (((r27_2.1.length : Nat) : Int) == 0))))], [], []⟩) (by kernel_rfl) (allP_cons.2 ⟨g5, (allP_cons.2 ⟨g6, (allP_cons.2 ⟨g7, allP_nil⟩)⟩)⟩) ?_
            refine W_co [] [6] [] (s' := (lBases_R (((r27_2.1.length : Nat) : Int) == 0))) (by kernel_rfl) (W_ret ?_)
            exact ⟨.inl rfl, by cases h; rfl⟩
          · replace h := bif_f h g7
            refine W_reg hT ftL_nil [(1, true), (6, false)] [] [6] [] (s' := ⟨[(6, .c (.s (.b false)))], [], []⟩) (by kernel_rfl) (allP_cons.2 ⟨g5, (allP_cons.2 ⟨g6, (allP_cons.2 ⟨g7, allP_nil⟩)⟩)⟩) ?_
            refine W_co [] [6] [] (s' := (lBases_R false)) (by kernel_rfl) (W_ret ?_)
            exact ⟨.inl rfl, by cases h; rfl⟩
        · replace h := bif_f h g5
          refine W_reg hT ftL_nil [(1, false)] [] [6] [] (s' := ⟨[(6, .c (.s (.b false)))], [], []⟩) (by kernel_rfl) (allP_cons.2 ⟨g5, allP_nil⟩) ?_
          refine W_co [] [6] [] (s' := (lBases_R false)) (by kernel_rfl) (W_ret ?_)
          exact ⟨.inl rfl, by cases h; rfl⟩
      · replace h := bif_f h g16
        refine W_co [] [0, 1, 2, 7, 8, 9] [0, 1, 2] (s' := ⟨[(0, .c (.wh 0)), (1, .c (.wh 1)), (2, .c (.s (.k .i64 i2_2))), (7, .c (.s (.b r10))), (8, .c (.wh 2)), (9, .c (.s (.er 38 .i64 r27_2.2)))], [], [⟨(.ro false), 5, 1, r12.2, .b ((l0.drop 0).take r12.2)⟩, ⟨(.ro false), 5, 1, r14.2, .b ((l1.drop 0).take r14.2)⟩, ⟨.row, 5, 1, r27_2.1.length, .b r27_2.1⟩]⟩) (by kernel_rfl) (W_skip ?_)
        refine W_seq ?_
        refine W_seq ?_
        refine W_reg hT ftL_nil [] [] [0, 1, 2, 7, 8, 9, 44] [0, 1, 2] (s' := ⟨[(0, .c (.wh 0)), (1, .c (.wh 1)), (2, .c (.s (.k .i64 i2_2))), (7, .c (.s (.b r10))), (8, .c (.wh 2)), (9, .c (.s (.er 38 .i64 r27_2.2))), (44, .c (.s (.b (decide ((10000 : Int) < i2_2)))))], [], [⟨(.ro false), 5, 1, r12.2, .b ((l0.drop 0).take r12.2)⟩, ⟨(.ro false), 5, 1, r14.2, .b ((l1.drop 0).take r14.2)⟩, ⟨.row, 5, 1, r27_2.1.length, .b r27_2.1⟩]⟩) (by kernel_rfl) allP_nil ?_
        refine W_cond (b := (decide ((10000 : Int) < i2_2))) (by kernel_rfl) (fun g15 => ?_) (fun g15 => ?_)
        · replace h := bif_t h g15
          refine W_seq ?_
          rcases Bool.eq_false_or_eq_true r10 with g8 | g8
          · replace h := bif_t h g8
            obtain ⟨g9, h⟩ := gd_some h
            rcases Bool.eq_false_or_eq_true (r27_2.2 == (some 4)) with g10 | g10
            · replace h := bif_t h g10
              refine W_reg hT ftL_nil [(1, true), (6, true)] [] [6] [] (s' := ⟨[(6, .c (.s (.b (((r27_2.1.length : Nat) : Int) == 0))))], [], []⟩) (by kernel_rfl) (allP_cons.2 ⟨g8, (allP_cons.2 ⟨g9, (allP_cons.2 ⟨g10, allP_nil⟩)⟩)⟩) ?_
              refine W_co [] [6] [] (s' := (lBases_R (((r27_2.1.length : Nat) : Int) == 0))) (by kernel_rfl) (W_ret ?_)
              exact ⟨.inl rfl, by cases h; rfl⟩
            · replace h := bif_f h g10
              refine W_reg hT ftL_nil [(1, true), (6, false)] [] [6] [] (s' := ⟨[(6, .c (.s (.b false)))], [], []⟩) (by kernel_rfl) (allP_cons.2 ⟨g8, (allP_cons.2 ⟨g9, (allP_cons.2 ⟨g10, allP_nil⟩)⟩)⟩) ?_
              refine W_co [] [6] [] (s' := (lBases_R false)) (by kernel_rfl) (W_ret ?_)
              exact ⟨.inl rfl, by cases h; rfl⟩
          · replace h := bif_f h g8
            refine W_reg hT ftL_nil [(1, false)] [] [6] [] (s' := ⟨[(6, .c (.s (.b false)))], [], []⟩) (by kernel_rfl) (allP_cons.2 ⟨g8, allP_nil⟩) ?_
            refine W_co [] [6] [] (s' := (lBases_R false)) (by kernel_rfl) (W_ret ?_)
            exact ⟨.inl rfl, by cases h; rfl⟩
        · replace h := bif_f h g15
          refine W_co [] [0, 1, 2, 7, 8, 9] [0, 1, 2] (s' := ⟨[(0, .c (.wh 0)), (1, .c (.wh 1)), (2, .c (.s (.k .i64 i2_2))), (7, .c (.s (.b r10))), (8, .c (.wh 2)), (9, .c (.s (.er 38 .i64 r27_2.2)))], [], [⟨(.ro false), 5, 1, r12.2, .b ((l0.drop 0).take r12.2)⟩, ⟨(.ro false), 5, 1, r14.2, .b ((l1.drop 0).take r14.2)⟩, ⟨.row, 5, 1, r27_2.1.length, .b r27_2.1⟩]⟩) (by kernel_rfl) (W_skip ?_)
          refine W_seq ?_
          rcases Bool.eq_false_or_eq_true r10 with g11 | g11
          · replace h := bif_t h g11
            rcases Bool.eq_false_or_eq_true ((r27_2.2).isNone) with g12 | g12
            · replace h := bif_t h g12
              obtain ⟨r64, g13, h⟩ := bind_some' h
              obtain ⟨r68_2, g14, h⟩ := bind_some' h
              refine W_regD hT (ftL_cons (k := 8) (f := 13) (F := (made_ct n r64)) (made_ok n r64) (fun _ _ => True.intro) (ftL_cons (k := 12) (f := 17) (F := (rBased_ct n r68_2)) (rBased_ok n r68_2) (fun _ _ => True.intro) ftL_nil)) (by kernel_rfl) 14 [(1, true), (5, true)] [(61, false), (63, false), (69, false)] [] [6] [] (s' := ⟨[(6, .c (.s (.b (r27_2.1 == r68_2))))], [], []⟩) (by kernel_rfl) (by kernel_rfl) (allP_cons.2 ⟨g11, (allP_cons.2 ⟨g12, (allP_cons.2 ⟨g13, (allP_cons.2 ⟨g14, allP_nil⟩)⟩)⟩)⟩) ?_
              refine W_co [] [6] [] (s' := (lBases_R (r27_2.1 == r68_2))) (by kernel_rfl) (W_ret ?_)
              exact ⟨.inl rfl, by cases h; rfl⟩
            · replace h := bif_f h g12
              refine W_regD hT ftL_nil (by kernel_rfl) 14 [(1, true), (5, false)] [(61, false), (63, false), (69, false)] [] [6] [] (s' := ⟨[(6, .c (.s (.b false)))], [], []⟩) (by kernel_rfl) (by kernel_rfl) (allP_cons.2 ⟨g11, (allP_cons.2 ⟨g12, allP_nil⟩)⟩) ?_
              refine W_co [] [6] [] (s' := (lBases_R false)) (by kernel_rfl) (W_ret ?_)
              exact ⟨.inl rfl, by cases h; rfl⟩
          · replace h := bif_f h g11
            refine W_regD hT ftL_nil (by kernel_rfl) 14 [(1, false)] [(61, false), (63, false), (69, false)] [] [6] [] (s' := ⟨[(6, .c (.s (.b false)))], [], []⟩) (by kernel_rfl) (by kernel_rfl) (allP_cons.2 ⟨g11, allP_nil⟩) ?_
            refine W_co [] [6] [] (s' := (lBases_R false)) (by kernel_rfl) (W_ret ?_)
            exact ⟨.inl rfl, by cases h; rfl⟩
    · refine W_seq ?_
      rcases Bool.eq_false_or_eq_true (decide ((20 : Int) < l2)) with g17 | g17
      · replace h := bif_t h g17
        refine W_reg hT ftL_nil [(2, true)] [] [0, 1, 2, 7, 20] [0, 1] (s' := ⟨[(0, .c (.sl 0 0 r12.2)), (1, .c (.sl 1 0 r14.2)), (2, .c (.s (.k .i64 l2))), (7, .c (.s (.b r10))), (20, .c (.s (.b (decide (l2 ≤ (10000 : Int))))))], [], [⟨(.ro false), 5, 1, l0.length, .b l0⟩, ⟨(.ro false), 5, 1, l1.length, .b l1⟩]⟩) (by kernel_rfl) (allP_cons.2 ⟨g17, allP_nil⟩) ?_
        refine W_cond (b := (decide (l2 ≤ (10000 : Int)))) (by kernel_rfl) (fun g19 => ?_) (fun g19 => ?_)
        · replace h := bif_t h g19
          obtain ⟨g18, h⟩ := gd_some h
          refine W_reg hT ftL_nil [] [.vw 0 false, .vw 1 false] [0, 1, 2, 7] [2, 3] (s' := (lBases_j1_E l0 l1 r10 r12 r14 (Int.tmod l2 21))) (by kernel_rfl) (allP_cons.2 ⟨g18, allP_nil⟩) ?_
          exact lBases_j1_M h
        · replace h := bif_f h g19
          refine W_co [.vw 0 false, .vw 1 false] [0, 1, 2, 7] [2, 3] (s' := (lBases_j1_E l0 l1 r10 r12 r14 l2)) (by kernel_rfl) (W_skip ?_)
          exact lBases_j1_M h
      · replace h := bif_f h g17
        refine W_reg hT ftL_nil [(2, false)] [] [0, 1, 2, 7, 20] [0, 1] (s' := ⟨[(0, .c (.sl 0 0 r12.2)), (1, .c (.sl 1 0 r14.2)), (2, .c (.s (.k .i64 l2))), (7, .c (.s (.b r10))), (20, .c (.s (.b false)))], [], [⟨(.ro false), 5, 1, l0.length, .b l0⟩, ⟨(.ro false), 5, 1, l1.length, .b l1⟩]⟩) (by kernel_rfl) (allP_cons.2 ⟨g17, allP_nil⟩) ?_
        refine W_cond (b := false) (by kernel_rfl) (fun hb => by cases hb) (fun _ => ?_)
        refine W_co [.vw 0 false, .vw 1 false] [0, 1, 2, 7] [2, 3] (s' := (lBases_j1_E l0 l1 r10 r12 r14 l2)) (by kernel_rfl) (W_skip ?_)
        exact lBases_j1_M h
  · rintro e s' ⟨he, rfl⟩
    refine ⟨he, fun a' w' hr => ?_⟩
    exact retS_ok tabO_mvbases hr (rs := [.tmp 6]) rfl (objs := []) (by kernel_rfl)
end Go.Proofs.YtamddohbpdbdmaaDoor
end
section
set_option linter.unusedVariables false
set_option linter.unusedSimpArgs false
namespace Go.Sx
open Go Go.RowKit Go.Ch Go.Proofs.YtamddohbpdbdmaaDoor
theorem lBases_j1_is (a0 a1 : List UInt8) (m0 m1 : Nat) (l0 : ((a0.drop 0).take m0).length ≤ 200) (l1 : ((a1.drop 0).take m1).length ≤ 200) (i : Int) : lBases_j1 N64 a0 a1 true (a0, m0) (a1, m1) i = some true := by
  unfold lBases_j1
  dsimp only
  by_cases h1 : i < 1
  · rw [mBased_bad _ _ _ _ (.inl h1), Option.bind_some, if_pos h1, ite_t (by simpa using h1), cond_true, gd_pos (by simp)]
    rfl
  · by_cases h2 : 10000 < i
    · rw [mBased_bad _ _ _ _ (.inr h2), Option.bind_some, if_neg h1, ite_f (by simpa using h1), ite_t (by simpa using h2), cond_true, gd_pos (by simp)]
      rfl
    · obtain ⟨r, rfl⟩ := Int.eq_ofNat_of_zero_le (show 0 ≤ i by omega)
      rw [mBased_is (by decide) (by omega) (by omega) (by omega) (by omega), Option.bind_some, ite_f (by simpa using h1), ite_f (by simpa using h2), cond_true, ite_t (by rfl), made_is, Option.bind_some]
      dsimp only
      rw [rBased_is (by decide) (by omega) (by omega) (by omega) (by omega), Option.bind_some]
      simp
theorem lBases_is (a0 a1 : List UInt8) (a2 : Int) : lBases N64 a0 a1 a2 = some true := by
  obtain ⟨m0, e0, l0, _⟩ := mcut_is N64 a0 200
  obtain ⟨m1, e1, l1, _⟩ := mcut_is N64 a1 200
  rw [show ((200 : Nat) : Int) = 200 from rfl] at e0 e1
  unfold lBases
  rw [mup_is, Option.bind_some, e0, Option.bind_some, e1, Option.bind_some]
  have := lBases_j1_is a0 a1 m0 m1 l0 l1
  cases decide ((20 : Int) < a2) <;> cases decide (a2 ≤ (10000 : Int)) <;> simp only [cond_true, cond_false]
  · exact this _
  · exact this _
  · exact this _
  · rw [gd_pos (by decide)]; exact this _
end Go.Sx
namespace Go.Proofs.YtamddohbpdbdmaaDoor
open Go.RowKit Go.Ch Go.Sx
theorem macBases_c (w : World) (B0 : Nat) (v0 : Value) (l0 : List UInt8) (hv0 : Sl w B0 v0 (l0.map bU)) (B1 : Nat) (v1 : Value) (l1 : List UInt8) (hv1 : Sl w B1 v1 (l1.map bU)) (n2 : Int) (hn2 : (Lit.int .i64 n2).wf = true) (hG : GK w) :
    Calls Tryd.prog 5 #[v0, v1, .int .i64 n2] w (Ret fun v' w' => Ext w w' ∧ v' = .bool true) := by
  obtain ⟨p0, a0, b0⟩ := in_b hv0 5
  obtain ⟨p1, a1, b1⟩ := in_b hv1 5
  have r2 : -9223372036854775808 ≤ n2 ∧ n2 < 9223372036854775808 := by simp [Lit.wf, IntKind.min, IntKind.max, IntKind.signed, IntKind.bits] at hn2; omega
  exact law_of (lBases_ok N64 true) (args := [.c (.wh 0), .c (.wh 1), .c (.s (.k .i64 n2))]) (H := [⟨.ro false, 5, 1, l0.length, .b l0⟩, ⟨.ro false, 5, 1, l1.length, .b l1⟩]) (ρ := plL [p0, p1]) (vals := [v0, v1, .int .i64 n2]) rfl (allP_cons.2 ⟨lBases_is l0 l1 n2, allP_nil⟩) hG (hpL (ps := [p0, p1]) (F2.cons b0 (F2.cons b1 F2.nil))) (F2.cons a0 (F2.cons a1 (F2.cons rfl F2.nil)))
end Go.Proofs.YtamddohbpdbdmaaDoor
end
