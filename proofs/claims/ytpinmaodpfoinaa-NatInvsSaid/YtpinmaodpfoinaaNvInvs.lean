import Derived.Test.YtpinmaodpfoinaaSxX
import Derived.Test.YtpinmaodpfoinaaProg
import Derived.Test.YtpinmaodpfoinaaNu
set_option linter.unusedVariables false
set_option linter.unusedSimpArgs false
namespace Go.Proofs.Ytpinmaodpfoinaa
open Go.RowKit Go.Ch Go.Sx

def tabL_nvinvs : List (TypeId × Ti) := [(3, ⟨.int .i64, 1, 8, true, some [.int .i64]⟩),
  (23, ⟨.sl 45, 1, 24, false, some [.nils]⟩),
  (27, ⟨.ifc, 1, 16, true, some [.ifc]⟩),
  (30, ⟨.int .i64, 1, 8, true, some [.int .i64]⟩),
  (32, ⟨.sl 3, 1, 24, false, some [.nils]⟩),
  (45, ⟨.int .u32, 1, 4, true, some [.int .u32]⟩)]
def tab_nvinvs : Tab := fun t => (tabL_nvinvs).lookup t
theorem tabE_nvinvs : (tabL_nvinvs.map fun p => tiOf Try.prog p.1) = tabL_nvinvs.map fun p => some p.2 := by kernel_rfl
theorem tabO_nvinvs : TabOk Try.prog tab_nvinvs := tab_of tabE_nvinvs

def lInvs (n : Nat) (a0 : List UInt32) (a1 : List UInt32) : Option (Bool) :=
  (lup n).bind fun r14 =>
  (llight n a0).bind fun r16 =>
  bif (!r16) then
    some r14
  else
    (llight n a1).bind fun r20 =>
    bif (!r20) then
      some r14
    else
      (pInv n a0 a1).bind fun r27 =>
      (rMay n a0).bind fun r31 =>
      bif (!r31) then
        bif r14 then
          gd (¬((r27.2 : Option Int) = none ∧ ((some 4) : Option Int) = none)) <|
          bif (r27.2 == (some 4)) then
            some (((r27.1.length : Nat) : Int) == 0)
          else
            some false
        else
          some false
      else
        (rMay n a1).bind fun r35 =>
        bif (!r35) then
          bif r14 then
            gd (¬((r27.2 : Option Int) = none ∧ ((some 4) : Option Int) = none)) <|
            bif (r27.2 == (some 4)) then
              some (((r27.1.length : Nat) : Int) == 0)
            else
              some false
          else
            some false
        else
          (rOf n a1).bind fun r50 =>
          (rCmp n r50.1 [2]).bind fun r54 =>
          bif (decide (r54 < (0 : Int))) then
            bif r14 then
              gd (¬((r27.2 : Option Int) = none ∧ ((some 1) : Option Int) = none)) <|
              bif (r27.2 == (some 1)) then
                some (((r27.1.length : Nat) : Int) == 0)
              else
                some false
            else
              some false
          else
            (rOf n a0).bind fun r68 =>
            (rRest n r68.1 r50.1).bind fun r72 =>
            (rGcd n r50.1 r72.1).bind fun r73 =>
            bif (((r73.2 : Nat) : Int) != 1) then
              bif r14 then
                gd (¬((r27.2 : Option Int) = none ∧ ((some 13) : Option Int) = none)) <|
                bif (r27.2 == (some 13)) then
                  some (((r27.1.length : Nat) : Int) == 0)
                else
                  some false
              else
                some false
            else
              gd (0 ≤ (0 : Int)) <|
              gd ((0 : Int) < ((r73.2 : Nat) : Int)) <|
              bif ((r73.1.getD 0 0) != 1) then
                bif r14 then
                  gd (¬((r27.2 : Option Int) = none ∧ ((some 13) : Option Int) = none)) <|
                  bif (r27.2 == (some 13)) then
                    some (((r27.1.length : Nat) : Int) == 0)
                  else
                    some false
                else
                  some false
              else
                (rOf n r27.1).bind fun r95 =>
                (rMul n r95.1 r68.1).bind fun r98 =>
                (rRest n r98.1 r50.1).bind fun r100 =>
                bif r14 then
                  bif ((r27.2).isNone) then
                    (rSame n r27.1 r95.1).bind fun r109 =>
                    bif r109 then
                      (rCmp n r95.1 r50.1).bind fun r114 =>
                      bif (decide (r114 < (0 : Int))) then
                        bif (((r100.2 : Nat) : Int) == 1) then
                          gd (0 ≤ (0 : Int)) <|
                          gd ((0 : Int) < ((r100.2 : Nat) : Int)) <|
                          some ((r100.1.getD 0 0) == 1)
                        else
                          some false
                      else
                        some false
                    else
                      some false
                  else
                    some false
                else
                  some false

def lInvs_R (r : Bool) : S := ⟨[(4, .c (.s (.b r)))], [], []⟩
def lInvs_ct (n : Nat) (r : Bool) : Ct := fun args H => match args with
  | [x0, x1] => (match aW H x0 with | some l0 => (match aW H x1 with | some l1 => some ([lInvs n l0 l1 = some r], shA H.length (.c (.s (.b r))), shH H.length []) | none => none) | none => none)
  | _ => none
theorem lInvs_ok (n : Nat) (r : Bool) : FnOk Try.prog Tr 5 (lInvs_ct n r) := by
  refine ⟨fun args H g av objs hF hg ρ w vals hG hp ha => ?_, _, Try.func5, by kernel_rfl, by kernel_rfl⟩
  obtain ⟨x0, x1, rfl⟩ : ∃ x0 x1, args = [x0, x1] := by
    unfold lInvs_ct at hF; split at hF
    · exact ⟨_, _, rfl⟩
    · cases hF
  cases e0 : aW H x0 with
  | none => simp only [lInvs_ct, e0, reduceCtorEq] at hF
  | some l0 =>
  cases e1 : aW H x1 with
  | none => simp only [lInvs_ct, e0, e1, reduceCtorEq] at hF
  | some l1 =>
  simp only [lInvs_ct, e0, e1, Option.some.injEq, Prod.mk.injEq] at hF
  obtain ⟨rfl, rfl, rfl⟩ := hF
  obtain ⟨v0, vals, rfl, k0, ha⟩ := F2.inv ha
  obtain ⟨v1, vals, rfl, k1, ha⟩ := F2.inv ha
  obtain rfl := F2.inv0 ha
  have hI : ∀ w', Kp (noB (fun _ => undef)) w w' → Tr w' := fun _ hk => Tr.keep hk.below hG
  have h : lInvs n l0 l1 = some r := hg
  obtain ⟨p0, s0, o0⟩ := aW_ok hp e0 (k0) 45
  obtain ⟨p1, s1, o1⟩ := aW_ok hp e1 (k1) 45
  have hR0 := rel0 (gv := (fun _ => undef)) (n := 128) (w := w) (args := [.c (.wh 0), .c (.wh 1)]) (H := [⟨.ro false, 45, 1, l0.length, .w l0⟩, ⟨.ro false, 45, 1, l1.length, .w l1⟩]) (gl := []) (hpL (ps := [p0, p1]) (F2.cons o0 (F2.cons o1 F2.nil))) (allRo_ok rfl) (F2.cons s0 (F2.cons s1 F2.nil)) GlR.nil (by simp)
  clear ha hp hg k0 k1 e0 e1
  refine calls_W Try.func5 rfl rfl hR0 (Q := fun e s => (e = .ret ∨ e = .normal) ∧ s = lInvs_R r) ?_ ?_
  · clear hR0
    unfold lInvs at h
    have hT := tabO_nvinvs
    refine W_seq ?_
    refine W_reg hT ftL_nil [] [] [0, 1] [0, 1] (s' := ⟨[(0, .c (.wh 0)), (1, .c (.wh 1))], [], [⟨(.ro false), 45, 1, l0.length, .w l0⟩, ⟨(.ro false), 45, 1, l1.length, .w l1⟩]⟩) (by kernel_rfl) allP_nil ?_
    refine W_seq ?_
    obtain ⟨r14, g1, h⟩ := bind_some' h
    refine W_reg hT (ftL_cons (k := 0) (f := 11) (F := (lup_ct n r14)) (lup_ok n r14) (fun _ _ => True.intro) ftL_nil) [] [] [0, 1, 5] [0, 1] (s' := ⟨[(0, .c (.wh 0)), (1, .c (.wh 1)), (5, .c (.s (.b r14)))], [], [⟨(.ro false), 45, 1, l0.length, .w l0⟩, ⟨(.ro false), 45, 1, l1.length, .w l1⟩]⟩) (by kernel_rfl) (allP_cons.2 ⟨g1, allP_nil⟩) ?_
    refine W_seq ?_
    refine W_seq ?_
    obtain ⟨r16, g2, h⟩ := bind_some' h
    rcases Bool.eq_false_or_eq_true (!r16) with g3 | g3
    · replace h := bif_t h g3
      refine W_reg hT (ftL_cons (k := 1) (f := 12) (F := (llight_ct n r16)) (llight_ok n r16) (fun _ _ => True.intro) ftL_nil) [(3, true)] [] [0, 1, 5, 22] [0, 1] (s' := ⟨[(0, .c (.wh 0)), (1, .c (.wh 1)), (5, .c (.s (.b r14))), (22, .c (.s (.b true)))], [], [⟨(.ro false), 45, 1, l0.length, .w l0⟩, ⟨(.ro false), 45, 1, l1.length, .w l1⟩]⟩) (by kernel_rfl) (allP_cons.2 ⟨g2, (allP_cons.2 ⟨g3, allP_nil⟩)⟩) ?_
      refine W_cond (b := true) (by kernel_rfl) (fun _ => ?_) (fun hb => by cases hb)
      refine W_seq ?_
      refine W_reg hT ftL_nil [] [] [4] [] (s' := ⟨[(4, .c (.s (.b r14)))], [], []⟩) (by kernel_rfl) allP_nil ?_
      refine W_co [] [4] [] (s' := (lInvs_R r14)) (by kernel_rfl) (W_ret ?_)
      exact ⟨.inl rfl, by cases h; rfl⟩
    · replace h := bif_f h g3
      obtain ⟨r20, g4, h⟩ := bind_some' h
      refine W_reg hT (ftL_cons (k := 1) (f := 12) (F := (llight_ct n r16)) (llight_ok n r16) (fun _ _ => True.intro) (ftL_cons (k := 5) (f := 12) (F := (llight_ct n r20)) (llight_ok n r20) (fun _ _ => True.intro) ftL_nil)) [(3, false)] [] [0, 1, 5, 22] [0, 1] (s' := ⟨[(0, .c (.wh 0)), (1, .c (.wh 1)), (5, .c (.s (.b r14))), (22, .c (.s (.b (!r20))))], [], [⟨(.ro false), 45, 1, l0.length, .w l0⟩, ⟨(.ro false), 45, 1, l1.length, .w l1⟩]⟩) (by kernel_rfl) (allP_cons.2 ⟨g2, (allP_cons.2 ⟨g3, (allP_cons.2 ⟨g4, allP_nil⟩)⟩)⟩) ?_
      refine W_cond (b := (!r20)) (by kernel_rfl) (fun g47 => ?_) (fun g47 => ?_)
      · replace h := bif_t h g47
        refine W_seq ?_
        refine W_reg hT ftL_nil [] [] [4] [] (s' := ⟨[(4, .c (.s (.b r14)))], [], []⟩) (by kernel_rfl) allP_nil ?_
        refine W_co [] [4] [] (s' := (lInvs_R r14)) (by kernel_rfl) (W_ret ?_)
        exact ⟨.inl rfl, by cases h; rfl⟩
      · replace h := bif_f h g47
        refine W_co [] [0, 1, 5] [0, 1] (s' := ⟨[(0, .c (.wh 0)), (1, .c (.wh 1)), (5, .c (.s (.b r14)))], [], [⟨(.ro false), 45, 1, l0.length, .w l0⟩, ⟨(.ro false), 45, 1, l1.length, .w l1⟩]⟩) (by kernel_rfl) (W_skip ?_)
        refine W_seq ?_
        obtain ⟨r27, g5, h⟩ := bind_some' h
        refine W_reg hT (ftL_cons (k := 2) (f := 20) (F := (pInv_ct n r27)) (pInv_ok n r27) (fun _ _ => True.intro) ftL_nil) [] [] [0, 1, 5, 6, 7] [0, 1, 2] (s' := ⟨[(0, .c (.wh 0)), (1, .c (.wh 1)), (5, .c (.s (.b r14))), (6, .c (.wh 2)), (7, .c (.s (.er 30 .i64 r27.2)))], [], [⟨(.ro false), 45, 1, l0.length, .w l0⟩, ⟨(.ro false), 45, 1, l1.length, .w l1⟩, ⟨.row, 45, 1, r27.1.length, .w r27.1⟩]⟩) (by kernel_rfl) (allP_cons.2 ⟨g5, allP_nil⟩) ?_
        refine W_seq ?_
        refine W_seq ?_
        obtain ⟨r31, g6, h⟩ := bind_some' h
        rcases Bool.eq_false_or_eq_true (!r31) with g7 | g7
        · replace h := bif_t h g7
          refine W_reg hT (ftL_cons (k := 1) (f := 14) (F := (rMay_ct n r31)) (rMay_ok n r31) (fun _ _ => True.intro) ftL_nil) [(3, true)] [] [0, 1, 5, 6, 7, 37] [0, 1, 2] (s' := ⟨[(0, .c (.wh 0)), (1, .c (.wh 1)), (5, .c (.s (.b r14))), (6, .c (.wh 2)), (7, .c (.s (.er 30 .i64 r27.2))), (37, .c (.s (.b true)))], [], [⟨(.ro false), 45, 1, l0.length, .w l0⟩, ⟨(.ro false), 45, 1, l1.length, .w l1⟩, ⟨.row, 45, 1, r27.1.length, .w r27.1⟩]⟩) (by kernel_rfl) (allP_cons.2 ⟨g6, (allP_cons.2 ⟨g7, allP_nil⟩)⟩) ?_
          refine W_cond (b := true) (by kernel_rfl) (fun _ => ?_) (fun hb => by cases hb)
          refine W_seq ?_
          rcases Bool.eq_false_or_eq_true r14 with g8 | g8
          · replace h := bif_t h g8
            obtain ⟨g9, h⟩ := gd_some h
            rcases Bool.eq_false_or_eq_true (r27.2 == (some 4)) with g10 | g10
            · replace h := bif_t h g10
              refine W_reg hT ftL_nil [(1, true), (6, true)] [] [4] [] (s' := ⟨[(4, .c (.s (.b (((r27.1.length : Nat) : Int) == 0))))], [], []⟩) (by kernel_rfl) (allP_cons.2 ⟨g8, (allP_cons.2 ⟨g9, (allP_cons.2 ⟨g10, allP_nil⟩)⟩)⟩) ?_
              refine W_co [] [4] [] (s' := (lInvs_R (((r27.1.length : Nat) : Int) == 0))) (by kernel_rfl) (W_ret ?_)
              exact ⟨.inl rfl, by cases h; rfl⟩
            · replace h := bif_f h g10
              refine W_reg hT ftL_nil [(1, true), (6, false)] [] [4] [] (s' := ⟨[(4, .c (.s (.b false)))], [], []⟩) (by kernel_rfl) (allP_cons.2 ⟨g8, (allP_cons.2 ⟨g9, (allP_cons.2 ⟨g10, allP_nil⟩)⟩)⟩) ?_
              refine W_co [] [4] [] (s' := (lInvs_R false)) (by kernel_rfl) (W_ret ?_)
              exact ⟨.inl rfl, by cases h; rfl⟩
          · replace h := bif_f h g8
            refine W_reg hT ftL_nil [(1, false)] [] [4] [] (s' := ⟨[(4, .c (.s (.b false)))], [], []⟩) (by kernel_rfl) (allP_cons.2 ⟨g8, allP_nil⟩) ?_
            refine W_co [] [4] [] (s' := (lInvs_R false)) (by kernel_rfl) (W_ret ?_)
            exact ⟨.inl rfl, by cases h; rfl⟩
        · replace h := bif_f h g7
          obtain ⟨r35, g11, h⟩ := bind_some' h
          refine W_reg hT (ftL_cons (k := 1) (f := 14) (F := (rMay_ct n r31)) (rMay_ok n r31) (fun _ _ => True.intro) (ftL_cons (k := 5) (f := 14) (F := (rMay_ct n r35)) (rMay_ok n r35) (fun _ _ => True.intro) ftL_nil)) [(3, false)] [] [0, 1, 5, 6, 7, 37] [0, 1, 2] (s' := ⟨[(0, .c (.wh 0)), (1, .c (.wh 1)), (5, .c (.s (.b r14))), (6, .c (.wh 2)), (7, .c (.s (.er 30 .i64 r27.2))), (37, .c (.s (.b (!r35))))], [], [⟨(.ro false), 45, 1, l0.length, .w l0⟩, ⟨(.ro false), 45, 1, l1.length, .w l1⟩, ⟨.row, 45, 1, r27.1.length, .w r27.1⟩]⟩) (by kernel_rfl) (allP_cons.2 ⟨g6, (allP_cons.2 ⟨g7, (allP_cons.2 ⟨g11, allP_nil⟩)⟩)⟩) ?_
          refine W_cond (b := (!r35)) (by kernel_rfl) (fun g46 => ?_) (fun g46 => ?_)
          · replace h := bif_t h g46
            refine W_seq ?_
            rcases Bool.eq_false_or_eq_true r14 with g12 | g12
            · replace h := bif_t h g12
              obtain ⟨g13, h⟩ := gd_some h
              rcases Bool.eq_false_or_eq_true (r27.2 == (some 4)) with g14 | g14
              · replace h := bif_t h g14
                refine W_reg hT ftL_nil [(1, true), (6, true)] [] [4] [] (s' := ⟨[(4, .c (.s (.b (((r27.1.length : Nat) : Int) == 0))))], [], []⟩) (by kernel_rfl) (allP_cons.2 ⟨g12, (allP_cons.2 ⟨g13, (allP_cons.2 ⟨g14, allP_nil⟩)⟩)⟩) ?_
                refine W_co [] [4] [] (s' := (lInvs_R (((r27.1.length : Nat) : Int) == 0))) (by kernel_rfl) (W_ret ?_)
                exact ⟨.inl rfl, by cases h; rfl⟩
              · replace h := bif_f h g14
                refine W_reg hT ftL_nil [(1, true), (6, false)] [] [4] [] (s' := ⟨[(4, .c (.s (.b false)))], [], []⟩) (by kernel_rfl) (allP_cons.2 ⟨g12, (allP_cons.2 ⟨g13, (allP_cons.2 ⟨g14, allP_nil⟩)⟩)⟩) ?_
                refine W_co [] [4] [] (s' := (lInvs_R false)) (by kernel_rfl) (W_ret ?_)
                exact ⟨.inl rfl, by cases h; rfl⟩
            · replace h := bif_f h g12
              refine W_reg hT ftL_nil [(1, false)] [] [4] [] (s' := ⟨[(4, .c (.s (.b false)))], [], []⟩) (by kernel_rfl) (allP_cons.2 ⟨g12, allP_nil⟩) ?_
              refine W_co [] [4] [] (s' := (lInvs_R false)) (by kernel_rfl) (W_ret ?_)
              exact ⟨.inl rfl, by cases h; rfl⟩
          · replace h := bif_f h g46
            refine W_co [] [0, 1, 5, 6, 7] [0, 1, 2] (s' := ⟨[(0, .c (.wh 0)), (1, .c (.wh 1)), (5, .c (.s (.b r14))), (6, .c (.wh 2)), (7, .c (.s (.er 30 .i64 r27.2)))], [], [⟨(.ro false), 45, 1, l0.length, .w l0⟩, ⟨(.ro false), 45, 1, l1.length, .w l1⟩, ⟨.row, 45, 1, r27.1.length, .w r27.1⟩]⟩) (by kernel_rfl) (W_skip ?_)
            refine W_seq ?_
            obtain ⟨r50, g15, h⟩ := bind_some' h
            refine W_reg hT (ftL_cons (k := 1) (f := 15) (F := (rOf_ct n r50)) (rOf_ok n r50) (fun _ _ => True.intro) ftL_nil) [] [] [0, 5, 6, 7, 8] [0, 2, 3] (s' := ⟨[(0, .c (.wh 0)), (5, .c (.s (.b r14))), (6, .c (.wh 1)), (7, .c (.s (.er 30 .i64 r27.2))), (8, .c (.wh 2))], [], [⟨(.ro false), 45, 1, l0.length, .w l0⟩, ⟨.row, 45, 1, r27.1.length, .w r27.1⟩, ⟨(.ro true), 3, 1, r50.2, .z r50.1⟩]⟩) (by kernel_rfl) (allP_cons.2 ⟨g15, allP_nil⟩) ?_
            refine W_seq ?_
            refine W_reg hT ftL_nil [] [] [0, 5, 6, 7, 8, 9] [0, 1, 2, 3] (s' := ⟨[(0, .c (.wh 0)), (5, .c (.s (.b r14))), (6, .c (.wh 1)), (7, .c (.s (.er 30 .i64 r27.2))), (8, .c (.wh 2)), (9, .c (.wh 3))], [], [⟨(.ro false), 45, 1, l0.length, .w l0⟩, ⟨.row, 45, 1, r27.1.length, .w r27.1⟩, ⟨(.ro true), 3, 1, r50.2, .z r50.1⟩, ⟨.row, 3, 1, 1, .z [2]⟩]⟩) (by kernel_rfl) allP_nil ?_
            refine W_seq ?_
            refine W_seq ?_
            obtain ⟨r54, g16, h⟩ := bind_some' h
            refine W_reg hT (ftL_cons (k := 2) (f := 21) (F := (rCmp_ct n r54)) (rCmp_ok n r54) (fun _ _ => True.intro) ftL_nil) [] [] [0, 5, 6, 7, 8, 55] [0, 1, 2] (s' := ⟨[(0, .c (.wh 0)), (5, .c (.s (.b r14))), (6, .c (.wh 1)), (7, .c (.s (.er 30 .i64 r27.2))), (8, .c (.wh 2)), (55, .c (.s (.b (decide (r54 < (0 : Int))))))], [], [⟨(.ro false), 45, 1, l0.length, .w l0⟩, ⟨.row, 45, 1, r27.1.length, .w r27.1⟩, ⟨(.ro true), 3, 1, r50.2, .z r50.1⟩]⟩) (by kernel_rfl) (allP_cons.2 ⟨g16, allP_nil⟩) ?_
            refine W_cond (b := (decide (r54 < (0 : Int)))) (by kernel_rfl) (fun g45 => ?_) (fun g45 => ?_)
            · replace h := bif_t h g45
              refine W_seq ?_
              rcases Bool.eq_false_or_eq_true r14 with g17 | g17
              · replace h := bif_t h g17
                obtain ⟨g18, h⟩ := gd_some h
                rcases Bool.eq_false_or_eq_true (r27.2 == (some 1)) with g19 | g19
                · replace h := bif_t h g19
                  refine W_reg hT ftL_nil [(1, true), (6, true)] [] [4] [] (s' := ⟨[(4, .c (.s (.b (((r27.1.length : Nat) : Int) == 0))))], [], []⟩) (by kernel_rfl) (allP_cons.2 ⟨g17, (allP_cons.2 ⟨g18, (allP_cons.2 ⟨g19, allP_nil⟩)⟩)⟩) ?_
                  refine W_co [] [4] [] (s' := (lInvs_R (((r27.1.length : Nat) : Int) == 0))) (by kernel_rfl) (W_ret ?_)
                  exact ⟨.inl rfl, by cases h; rfl⟩
                · replace h := bif_f h g19
                  refine W_reg hT ftL_nil [(1, true), (6, false)] [] [4] [] (s' := ⟨[(4, .c (.s (.b false)))], [], []⟩) (by kernel_rfl) (allP_cons.2 ⟨g17, (allP_cons.2 ⟨g18, (allP_cons.2 ⟨g19, allP_nil⟩)⟩)⟩) ?_
                  refine W_co [] [4] [] (s' := (lInvs_R false)) (by kernel_rfl) (W_ret ?_)
                  exact ⟨.inl rfl, by cases h; rfl⟩
              · replace h := bif_f h g17
                refine W_reg hT ftL_nil [(1, false)] [] [4] [] (s' := ⟨[(4, .c (.s (.b false)))], [], []⟩) (by kernel_rfl) (allP_cons.2 ⟨g17, allP_nil⟩) ?_
                refine W_co [] [4] [] (s' := (lInvs_R false)) (by kernel_rfl) (W_ret ?_)
                exact ⟨.inl rfl, by cases h; rfl⟩
            · replace h := bif_f h g45
              refine W_co [] [0, 5, 6, 7, 8] [0, 1, 2] (s' := ⟨[(0, .c (.wh 0)), (5, .c (.s (.b r14))), (6, .c (.wh 1)), (7, .c (.s (.er 30 .i64 r27.2))), (8, .c (.wh 2))], [], [⟨(.ro false), 45, 1, l0.length, .w l0⟩, ⟨.row, 45, 1, r27.1.length, .w r27.1⟩, ⟨(.ro true), 3, 1, r50.2, .z r50.1⟩]⟩) (by kernel_rfl) (W_skip ?_)
              refine W_seq ?_
              obtain ⟨r68, g20, h⟩ := bind_some' h
              refine W_reg hT (ftL_cons (k := 1) (f := 15) (F := (rOf_ct n r68)) (rOf_ok n r68) (fun _ _ => True.intro) ftL_nil) [] [] [5, 6, 7, 8, 10] [1, 2, 3] (s' := ⟨[(5, .c (.s (.b r14))), (6, .c (.wh 0)), (7, .c (.s (.er 30 .i64 r27.2))), (8, .c (.wh 1)), (10, .c (.wh 2))], [], [⟨.row, 45, 1, r27.1.length, .w r27.1⟩, ⟨(.ro true), 3, 1, r50.2, .z r50.1⟩, ⟨(.ro true), 3, 1, r68.2, .z r68.1⟩]⟩) (by kernel_rfl) (allP_cons.2 ⟨g20, allP_nil⟩) ?_
              refine W_seq ?_
              obtain ⟨r72, g21, h⟩ := bind_some' h
              obtain ⟨r73, g22, h⟩ := bind_some' h
              refine W_reg hT (ftL_cons (k := 3) (f := 23) (F := (rRest_ct n r72)) (rRest_ok n r72) (fun _ _ => True.intro) (ftL_cons (k := 4) (f := 22) (F := (rGcd_ct n r73)) (rGcd_ok n r73) (fun _ _ => True.intro) ftL_nil)) [] [] [5, 6, 7, 8, 10, 11] [0, 1, 2, 4] (s' := ⟨[(5, .c (.s (.b r14))), (6, .c (.wh 0)), (7, .c (.s (.er 30 .i64 r27.2))), (8, .c (.wh 1)), (10, .c (.wh 2)), (11, .c (.wh 3))], [], [⟨(.ro true), 45, 1, r27.1.length, .w r27.1⟩, ⟨(.ro true), 3, 1, r50.2, .z r50.1⟩, ⟨(.ro true), 3, 1, r68.2, .z r68.1⟩, ⟨(.ro false), 3, 1, r73.2, .z r73.1⟩]⟩) (by kernel_rfl) (allP_cons.2 ⟨g21, (allP_cons.2 ⟨g22, allP_nil⟩)⟩) ?_
              refine W_seq ?_
              refine W_seq ?_
              rcases Bool.eq_false_or_eq_true (((r73.2 : Nat) : Int) != 1) with g23 | g23
              · replace h := bif_t h g23
                refine W_reg hT ftL_nil [(3, true)] [] [5, 6, 7, 8, 10, 82] [0, 1, 2] (s' := ⟨[(5, .c (.s (.b r14))), (6, .c (.wh 0)), (7, .c (.s (.er 30 .i64 r27.2))), (8, .c (.wh 1)), (10, .c (.wh 2)), (82, .c (.s (.b true)))], [], [⟨(.ro true), 45, 1, r27.1.length, .w r27.1⟩, ⟨(.ro true), 3, 1, r50.2, .z r50.1⟩, ⟨(.ro true), 3, 1, r68.2, .z r68.1⟩]⟩) (by kernel_rfl) (allP_cons.2 ⟨g23, allP_nil⟩) ?_
                refine W_cond (b := true) (by kernel_rfl) (fun _ => ?_) (fun hb => by cases hb)
                refine W_seq ?_
                rcases Bool.eq_false_or_eq_true r14 with g24 | g24
                · replace h := bif_t h g24
                  obtain ⟨g25, h⟩ := gd_some h
                  rcases Bool.eq_false_or_eq_true (r27.2 == (some 13)) with g26 | g26
                  · replace h := bif_t h g26
                    refine W_reg hT ftL_nil [(1, true), (6, true)] [] [4] [] (s' := ⟨[(4, .c (.s (.b (((r27.1.length : Nat) : Int) == 0))))], [], []⟩) (by kernel_rfl) (allP_cons.2 ⟨g24, (allP_cons.2 ⟨g25, (allP_cons.2 ⟨g26, allP_nil⟩)⟩)⟩) ?_
                    refine W_co [] [4] [] (s' := (lInvs_R (((r27.1.length : Nat) : Int) == 0))) (by kernel_rfl) (W_ret ?_)
                    exact ⟨.inl rfl, by cases h; rfl⟩
                  · replace h := bif_f h g26
                    refine W_reg hT ftL_nil [(1, true), (6, false)] [] [4] [] (s' := ⟨[(4, .c (.s (.b false)))], [], []⟩) (by kernel_rfl) (allP_cons.2 ⟨g24, (allP_cons.2 ⟨g25, (allP_cons.2 ⟨g26, allP_nil⟩)⟩)⟩) ?_
                    refine W_co [] [4] [] (s' := (lInvs_R false)) (by kernel_rfl) (W_ret ?_)
                    exact ⟨.inl rfl, by cases h; rfl⟩
                · replace h := bif_f h g24
                  refine W_reg hT ftL_nil [(1, false)] [] [4] [] (s' := ⟨[(4, .c (.s (.b false)))], [], []⟩) (by kernel_rfl) (allP_cons.2 ⟨g24, allP_nil⟩) ?_
                  refine W_co [] [4] [] (s' := (lInvs_R false)) (by kernel_rfl) (W_ret ?_)
                  exact ⟨.inl rfl, by cases h; rfl⟩
              · replace h := bif_f h g23
                obtain ⟨g27, h⟩ := gd_some h
                obtain ⟨g28, h⟩ := gd_some h
                refine W_reg hT ftL_nil [(3, false)] [] [5, 6, 7, 8, 10, 82] [0, 1, 2] (s' := ⟨[(5, .c (.s (.b r14))), (6, .c (.wh 0)), (7, .c (.s (.er 30 .i64 r27.2))), (8, .c (.wh 1)), (10, .c (.wh 2)), (82, .c (.s (.b ((r73.1.getD 0 0) != 1))))], [], [⟨(.ro true), 45, 1, r27.1.length, .w r27.1⟩, ⟨(.ro true), 3, 1, r50.2, .z r50.1⟩, ⟨(.ro true), 3, 1, r68.2, .z r68.1⟩]⟩) (by kernel_rfl) (allP_cons.2 ⟨g23, (allP_cons.2 ⟨g27, (allP_cons.2 ⟨g28, allP_nil⟩)⟩)⟩) ?_
                refine W_cond (b := ((r73.1.getD 0 0) != 1)) (by kernel_rfl) (fun g44 => ?_) (fun g44 => ?_)
                · replace h := bif_t h g44
                  refine W_seq ?_
                  rcases Bool.eq_false_or_eq_true r14 with g29 | g29
                  · replace h := bif_t h g29
                    obtain ⟨g30, h⟩ := gd_some h
                    rcases Bool.eq_false_or_eq_true (r27.2 == (some 13)) with g31 | g31
                    · replace h := bif_t h g31
                      refine W_reg hT ftL_nil [(1, true), (6, true)] [] [4] [] (s' := ⟨[(4, .c (.s (.b (((r27.1.length : Nat) : Int) == 0))))], [], []⟩) (by kernel_rfl) (allP_cons.2 ⟨g29, (allP_cons.2 ⟨g30, (allP_cons.2 ⟨g31, allP_nil⟩)⟩)⟩) ?_
                      refine W_co [] [4] [] (s' := (lInvs_R (((r27.1.length : Nat) : Int) == 0))) (by kernel_rfl) (W_ret ?_)
                      exact ⟨.inl rfl, by cases h; rfl⟩
                    · replace h := bif_f h g31
                      refine W_reg hT ftL_nil [(1, true), (6, false)] [] [4] [] (s' := ⟨[(4, .c (.s (.b false)))], [], []⟩) (by kernel_rfl) (allP_cons.2 ⟨g29, (allP_cons.2 ⟨g30, (allP_cons.2 ⟨g31, allP_nil⟩)⟩)⟩) ?_
                      refine W_co [] [4] [] (s' := (lInvs_R false)) (by kernel_rfl) (W_ret ?_)
                      exact ⟨.inl rfl, by cases h; rfl⟩
                  · replace h := bif_f h g29
                    refine W_reg hT ftL_nil [(1, false)] [] [4] [] (s' := ⟨[(4, .c (.s (.b false)))], [], []⟩) (by kernel_rfl) (allP_cons.2 ⟨g29, allP_nil⟩) ?_
                    refine W_co [] [4] [] (s' := (lInvs_R false)) (by kernel_rfl) (W_ret ?_)
                    exact ⟨.inl rfl, by cases h; rfl⟩
                · replace h := bif_f h g44
                  refine W_co [] [5, 6, 7, 8, 10] [0, 1, 2] (s' := ⟨[(5, .c (.s (.b r14))), (6, .c (.wh 0)), (7, .c (.s (.er 30 .i64 r27.2))), (8, .c (.wh 1)), (10, .c (.wh 2))], [], [⟨(.ro true), 45, 1, r27.1.length, .w r27.1⟩, ⟨(.ro true), 3, 1, r50.2, .z r50.1⟩, ⟨(.ro true), 3, 1, r68.2, .z r68.1⟩]⟩) (by kernel_rfl) (W_skip ?_)
                  refine W_seq ?_
                  obtain ⟨r95, g32, h⟩ := bind_some' h
                  refine W_reg hT (ftL_cons (k := 1) (f := 15) (F := (rOf_ct n r95)) (rOf_ok n r95) (fun _ _ => True.intro) ftL_nil) [] [] [5, 6, 7, 8, 10, 12] [0, 1, 2, 3] (s' := ⟨[(5, .c (.s (.b r14))), (6, .c (.wh 0)), (7, .c (.s (.er 30 .i64 r27.2))), (8, .c (.wh 1)), (10, .c (.wh 2)), (12, .c (.wh 3))], [], [⟨(.ro true), 45, 1, r27.1.length, .w r27.1⟩, ⟨(.ro true), 3, 1, r50.2, .z r50.1⟩, ⟨(.ro true), 3, 1, r68.2, .z r68.1⟩, ⟨(.ro true), 3, 1, r95.2, .z r95.1⟩]⟩) (by kernel_rfl) (allP_cons.2 ⟨g32, allP_nil⟩) ?_
                  refine W_seq ?_
                  obtain ⟨r98, g33, h⟩ := bind_some' h
                  obtain ⟨r100, g34, h⟩ := bind_some' h
                  refine W_reg hT (ftL_cons (k := 2) (f := 24) (F := (rMul_ct n r98)) (rMul_ok n r98) (fun _ _ => True.intro) (ftL_cons (k := 4) (f := 23) (F := (rRest_ct n r100)) (rRest_ok n r100) (fun _ _ => True.intro) ftL_nil)) [] [] [5, 6, 7, 8, 12, 13] [0, 1, 3, 5] (s' := ⟨[(5, .c (.s (.b r14))), (6, .c (.wh 0)), (7, .c (.s (.er 30 .i64 r27.2))), (8, .c (.wh 1)), (12, .c (.wh 2)), (13, .c (.wh 3))], [], [⟨(.ro true), 45, 1, r27.1.length, .w r27.1⟩, ⟨(.ro true), 3, 1, r50.2, .z r50.1⟩, ⟨(.ro true), 3, 1, r95.2, .z r95.1⟩, ⟨(.ro true), 3, 1, r100.2, .z r100.1⟩]⟩) (by kernel_rfl) (allP_cons.2 ⟨g33, (allP_cons.2 ⟨g34, allP_nil⟩)⟩) ?_
                  refine W_seq ?_
                  rcases Bool.eq_false_or_eq_true r14 with g35 | g35
                  · replace h := bif_t h g35
                    rcases Bool.eq_false_or_eq_true ((r27.2).isNone) with g36 | g36
                    · replace h := bif_t h g36
                      obtain ⟨r109, g37, h⟩ := bind_some' h
                      rcases Bool.eq_false_or_eq_true r109 with g38 | g38
                      · replace h := bif_t h g38
                        obtain ⟨r114, g39, h⟩ := bind_some' h
                        rcases Bool.eq_false_or_eq_true (decide (r114 < (0 : Int))) with g40 | g40
                        · replace h := bif_t h g40
                          rcases Bool.eq_false_or_eq_true (((r100.2 : Nat) : Int) == 1) with g41 | g41
                          · replace h := bif_t h g41
                            obtain ⟨g42, h⟩ := gd_some h
                            obtain ⟨g43, h⟩ := gd_some h
                            refine W_reg hT (ftL_cons (k := 8) (f := 17) (F := (rSame_ct n r109)) (rSame_ok n r109) (fun _ _ => True.intro) (ftL_cons (k := 13) (f := 21) (F := (rCmp_ct n r114)) (rCmp_ok n r114) (fun _ _ => True.intro) ftL_nil)) [(1, true), (5, true), (10, true), (16, true), (21, true)] [] [4] [] (s' := ⟨[(4, .c (.s (.b ((r100.1.getD 0 0) == 1))))], [], []⟩) (by kernel_rfl) (allP_cons.2 ⟨g35, (allP_cons.2 ⟨g36, (allP_cons.2 ⟨g37, (allP_cons.2 ⟨g38, (allP_cons.2 ⟨g39, (allP_cons.2 ⟨g40, (allP_cons.2 ⟨g41, (allP_cons.2 ⟨g42, (allP_cons.2 ⟨g43, allP_nil⟩)⟩)⟩)⟩)⟩)⟩)⟩)⟩)⟩) ?_
                            refine W_co [] [4] [] (s' := (lInvs_R ((r100.1.getD 0 0) == 1))) (by kernel_rfl) (W_ret ?_)
                            exact ⟨.inl rfl, by cases h; rfl⟩
                          · replace h := bif_f h g41
                            refine W_reg hT (ftL_cons (k := 8) (f := 17) (F := (rSame_ct n r109)) (rSame_ok n r109) (fun _ _ => True.intro) (ftL_cons (k := 13) (f := 21) (F := (rCmp_ct n r114)) (rCmp_ok n r114) (fun _ _ => True.intro) ftL_nil)) [(1, true), (5, true), (10, true), (16, true), (21, false)] [] [4] [] (s' := ⟨[(4, .c (.s (.b false)))], [], []⟩) (by kernel_rfl) (allP_cons.2 ⟨g35, (allP_cons.2 ⟨g36, (allP_cons.2 ⟨g37, (allP_cons.2 ⟨g38, (allP_cons.2 ⟨g39, (allP_cons.2 ⟨g40, (allP_cons.2 ⟨g41, allP_nil⟩)⟩)⟩)⟩)⟩)⟩)⟩) ?_
                            refine W_co [] [4] [] (s' := (lInvs_R false)) (by kernel_rfl) (W_ret ?_)
                            exact ⟨.inl rfl, by cases h; rfl⟩
                        · replace h := bif_f h g40
                          refine W_reg hT (ftL_cons (k := 8) (f := 17) (F := (rSame_ct n r109)) (rSame_ok n r109) (fun _ _ => True.intro) (ftL_cons (k := 13) (f := 21) (F := (rCmp_ct n r114)) (rCmp_ok n r114) (fun _ _ => True.intro) ftL_nil)) [(1, true), (5, true), (10, true), (16, false)] [] [4] [] (s' := ⟨[(4, .c (.s (.b false)))], [], []⟩) (by kernel_rfl) (allP_cons.2 ⟨g35, (allP_cons.2 ⟨g36, (allP_cons.2 ⟨g37, (allP_cons.2 ⟨g38, (allP_cons.2 ⟨g39, (allP_cons.2 ⟨g40, allP_nil⟩)⟩)⟩)⟩)⟩)⟩) ?_
                          refine W_co [] [4] [] (s' := (lInvs_R false)) (by kernel_rfl) (W_ret ?_)
                          exact ⟨.inl rfl, by cases h; rfl⟩
                      · replace h := bif_f h g38
                        refine W_reg hT (ftL_cons (k := 8) (f := 17) (F := (rSame_ct n r109)) (rSame_ok n r109) (fun _ _ => True.intro) ftL_nil) [(1, true), (5, true), (10, false)] [] [4] [] (s' := ⟨[(4, .c (.s (.b false)))], [], []⟩) (by kernel_rfl) (allP_cons.2 ⟨g35, (allP_cons.2 ⟨g36, (allP_cons.2 ⟨g37, (allP_cons.2 ⟨g38, allP_nil⟩)⟩)⟩)⟩) ?_
                        refine W_co [] [4] [] (s' := (lInvs_R false)) (by kernel_rfl) (W_ret ?_)
                        exact ⟨.inl rfl, by cases h; rfl⟩
                    · replace h := bif_f h g36
                      refine W_reg hT ftL_nil [(1, true), (5, false)] [] [4] [] (s' := ⟨[(4, .c (.s (.b false)))], [], []⟩) (by kernel_rfl) (allP_cons.2 ⟨g35, (allP_cons.2 ⟨g36, allP_nil⟩)⟩) ?_
                      refine W_co [] [4] [] (s' := (lInvs_R false)) (by kernel_rfl) (W_ret ?_)
                      exact ⟨.inl rfl, by cases h; rfl⟩
                  · replace h := bif_f h g35
                    refine W_reg hT ftL_nil [(1, false)] [] [4] [] (s' := ⟨[(4, .c (.s (.b false)))], [], []⟩) (by kernel_rfl) (allP_cons.2 ⟨g35, allP_nil⟩) ?_
                    refine W_co [] [4] [] (s' := (lInvs_R false)) (by kernel_rfl) (W_ret ?_)
                    exact ⟨.inl rfl, by cases h; rfl⟩
  · rintro e s' ⟨he, rfl⟩
    refine ⟨he, fun a' w' hr => ?_⟩
    exact retS_ok tabO_nvinvs hr (rs := [.tmp 4]) rfl (objs := []) (by kernel_rfl)
end Go.Proofs.Ytpinmaodpfoinaa
