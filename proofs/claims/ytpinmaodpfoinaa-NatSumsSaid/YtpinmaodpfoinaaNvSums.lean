import Derived.Test.YtpinmaodpfoinaaSxX
import Derived.Test.YtpinmaodpfoinaaProg
import Derived.Test.YtpinmaodpfoinaaNu
set_option linter.unusedVariables false
set_option linter.unusedSimpArgs false
namespace Go.Proofs.Ytpinmaodpfoinaa
open Go.RowKit Go.Ch Go.Sx

def tabL_nvsums : List (TypeId × Ti) := [(23, ⟨.sl 45, 1, 24, false, some [.nils]⟩),
  (27, ⟨.ifc, 1, 16, true, some [.ifc]⟩),
  (30, ⟨.int .i64, 1, 8, true, some [.int .i64]⟩),
  (45, ⟨.int .u32, 1, 4, true, some [.int .u32]⟩)]
def tab_nvsums : Tab := fun t => (tabL_nvsums).lookup t
theorem tabE_nvsums : (tabL_nvsums.map fun p => tiOf Try.prog p.1) = tabL_nvsums.map fun p => some p.2 := by kernel_rfl
theorem tabO_nvsums : TabOk Try.prog tab_nvsums := tab_of tabE_nvsums

def lSums (n : Nat) (a0 : List UInt32) (a1 : List UInt32) : Option (Bool) :=
  (lup n).bind fun r12 =>
  (llight n a0).bind fun r14 =>
  bif (!r14) then
    some r12
  else
    (llight n a1).bind fun r18 =>
    bif (!r18) then
      some r12
    else
      (pAdd n a0 a1).bind fun r25 =>
      (pSub n a0 a1).bind fun r31 =>
      (rMay n a0).bind fun r35 =>
      bif (!r35) then
        bif r12 then
          gd (¬((r25.2.2 : Option Int) = none ∧ ((some 4) : Option Int) = none)) <|
          bif (r25.2.2 == (some 4)) then
            gd (¬((r31.2.2 : Option Int) = none ∧ ((some 4) : Option Int) = none)) <|
            bif (r31.2.2 == (some 4)) then
              bif (((r25.2.1 : Nat) : Int) == 0) then
                some (((r31.2.1 : Nat) : Int) == 0)
              else
                some false
            else
              some false
          else
            some false
        else
          some false
      else
        (rMay n a1).bind fun r39 =>
        bif (!r39) then
          bif r12 then
            gd (¬((r25.2.2 : Option Int) = none ∧ ((some 4) : Option Int) = none)) <|
            bif (r25.2.2 == (some 4)) then
              gd (¬((r31.2.2 : Option Int) = none ∧ ((some 4) : Option Int) = none)) <|
              bif (r31.2.2 == (some 4)) then
                bif (((r25.2.1 : Nat) : Int) == 0) then
                  some (((r31.2.1 : Nat) : Int) == 0)
                else
                  some false
              else
                some false
            else
              some false
          else
            some false
        else
          (rOf n a0).bind fun r64 =>
          (rOf n a1).bind fun r66 =>
          bif (!((r25.2.2).isNone)) then
            some false
          else
            (rAdd n r64.1 r66.1).bind fun r73 =>
            (rSame n r25.1 r73.1).bind fun r74 =>
            bif (!r74) then
              some false
            else
              (rCmp n r64.1 r66.1).bind fun r79 =>
              bif (decide (r79 < (0 : Int))) then
                bif r12 then
                  gd (¬((r31.2.2 : Option Int) = none ∧ ((some 1) : Option Int) = none)) <|
                  bif (r31.2.2 == (some 1)) then
                    some (((r31.2.1 : Nat) : Int) == 0)
                  else
                    some false
                else
                  some false
              else
                bif r12 then
                  bif ((r31.2.2).isNone) then
                    (rSub n r64.1 r66.1).bind fun r101 =>
                    (rSame n r31.1 r101.1).bind fun r102 =>
                    some r102
                  else
                    some false
                else
                  some false

def lSums_R (r : Bool) : S := ⟨[(4, .c (.s (.b r)))], [], []⟩
def lSums_ct (n : Nat) (r : Bool) : Ct := fun args H => match args with
  | [x0, x1] => (match aW H x0 with | some l0 => (match aW H x1 with | some l1 => some ([lSums n l0 l1 = some r], shA H.length (.c (.s (.b r))), shH H.length []) | none => none) | none => none)
  | _ => none
theorem lSums_ok (n : Nat) (r : Bool) : FnOk Try.prog Tr 7 (lSums_ct n r) := by
  refine ⟨fun args H g av objs hF hg ρ w vals hG hp ha => ?_, _, Try.func7, by kernel_rfl, by kernel_rfl⟩
  obtain ⟨x0, x1, rfl⟩ : ∃ x0 x1, args = [x0, x1] := by
    unfold lSums_ct at hF; split at hF
    · exact ⟨_, _, rfl⟩
    · cases hF
  cases e0 : aW H x0 with
  | none => simp only [lSums_ct, e0, reduceCtorEq] at hF
  | some l0 =>
  cases e1 : aW H x1 with
  | none => simp only [lSums_ct, e0, e1, reduceCtorEq] at hF
  | some l1 =>
  simp only [lSums_ct, e0, e1, Option.some.injEq, Prod.mk.injEq] at hF
  obtain ⟨rfl, rfl, rfl⟩ := hF
  obtain ⟨v0, vals, rfl, k0, ha⟩ := F2.inv ha
  obtain ⟨v1, vals, rfl, k1, ha⟩ := F2.inv ha
  obtain rfl := F2.inv0 ha
  have hI : ∀ w', Kp (noB (fun _ => undef)) w w' → Tr w' := fun _ hk => Tr.keep hk.below hG
  have h : lSums n l0 l1 = some r := hg
  obtain ⟨p0, s0, o0⟩ := aW_ok hp e0 (k0) 45
  obtain ⟨p1, s1, o1⟩ := aW_ok hp e1 (k1) 45
  have hR0 := rel0 (gv := (fun _ => undef)) (n := 104) (w := w) (args := [.c (.wh 0), .c (.wh 1)]) (H := [⟨.ro false, 45, 1, l0.length, .w l0⟩, ⟨.ro false, 45, 1, l1.length, .w l1⟩]) (gl := []) (hpL (ps := [p0, p1]) (F2.cons o0 (F2.cons o1 F2.nil))) (allRo_ok rfl) (F2.cons s0 (F2.cons s1 F2.nil)) GlR.nil (by simp)
  clear ha hp hg k0 k1 e0 e1
  refine calls_W Try.func7 rfl rfl hR0 (Q := fun e s => (e = .ret ∨ e = .normal) ∧ s = lSums_R r) ?_ ?_
  · clear hR0
    unfold lSums at h
    have hT := tabO_nvsums
    refine W_seq ?_
    refine W_reg hT ftL_nil [] [] [0, 1] [0, 1] (s' := ⟨[(0, .c (.wh 0)), (1, .c (.wh 1))], [], [⟨(.ro false), 45, 1, l0.length, .w l0⟩, ⟨(.ro false), 45, 1, l1.length, .w l1⟩]⟩) (by kernel_rfl) allP_nil ?_
    refine W_seq ?_
    obtain ⟨r12, g1, h⟩ := bind_some' h
    refine W_reg hT (ftL_cons (k := 0) (f := 11) (F := (lup_ct n r12)) (lup_ok n r12) (fun _ _ => True.intro) ftL_nil) [] [] [0, 1, 5] [0, 1] (s' := ⟨[(0, .c (.wh 0)), (1, .c (.wh 1)), (5, .c (.s (.b r12)))], [], [⟨(.ro false), 45, 1, l0.length, .w l0⟩, ⟨(.ro false), 45, 1, l1.length, .w l1⟩]⟩) (by kernel_rfl) (allP_cons.2 ⟨g1, allP_nil⟩) ?_
    refine W_seq ?_
    refine W_seq ?_
    obtain ⟨r14, g2, h⟩ := bind_some' h
    rcases Bool.eq_false_or_eq_true (!r14) with g3 | g3
    · replace h := bif_t h g3
      refine W_reg hT (ftL_cons (k := 1) (f := 12) (F := (llight_ct n r14)) (llight_ok n r14) (fun _ _ => True.intro) ftL_nil) [(3, true)] [] [0, 1, 5, 20] [0, 1] (s' := ⟨[(0, .c (.wh 0)), (1, .c (.wh 1)), (5, .c (.s (.b r12))), (20, .c (.s (.b true)))], [], [⟨(.ro false), 45, 1, l0.length, .w l0⟩, ⟨(.ro false), 45, 1, l1.length, .w l1⟩]⟩) (by kernel_rfl) (allP_cons.2 ⟨g2, (allP_cons.2 ⟨g3, allP_nil⟩)⟩) ?_
      refine W_cond (b := true) (by kernel_rfl) (fun _ => ?_) (fun hb => by cases hb)
      refine W_seq ?_
      refine W_reg hT ftL_nil [] [] [4] [] (s' := ⟨[(4, .c (.s (.b r12)))], [], []⟩) (by kernel_rfl) allP_nil ?_
      refine W_co [] [4] [] (s' := (lSums_R r12)) (by kernel_rfl) (W_ret ?_)
      exact ⟨.inl rfl, by cases h; rfl⟩
    · replace h := bif_f h g3
      obtain ⟨r18, g4, h⟩ := bind_some' h
      refine W_reg hT (ftL_cons (k := 1) (f := 12) (F := (llight_ct n r14)) (llight_ok n r14) (fun _ _ => True.intro) (ftL_cons (k := 5) (f := 12) (F := (llight_ct n r18)) (llight_ok n r18) (fun _ _ => True.intro) ftL_nil)) [(3, false)] [] [0, 1, 5, 20] [0, 1] (s' := ⟨[(0, .c (.wh 0)), (1, .c (.wh 1)), (5, .c (.s (.b r12))), (20, .c (.s (.b (!r18))))], [], [⟨(.ro false), 45, 1, l0.length, .w l0⟩, ⟨(.ro false), 45, 1, l1.length, .w l1⟩]⟩) (by kernel_rfl) (allP_cons.2 ⟨g2, (allP_cons.2 ⟨g3, (allP_cons.2 ⟨g4, allP_nil⟩)⟩)⟩) ?_
      refine W_cond (b := (!r18)) (by kernel_rfl) (fun g38 => ?_) (fun g38 => ?_)
      · replace h := bif_t h g38
        refine W_seq ?_
        refine W_reg hT ftL_nil [] [] [4] [] (s' := ⟨[(4, .c (.s (.b r12)))], [], []⟩) (by kernel_rfl) allP_nil ?_
        refine W_co [] [4] [] (s' := (lSums_R r12)) (by kernel_rfl) (W_ret ?_)
        exact ⟨.inl rfl, by cases h; rfl⟩
      · replace h := bif_f h g38
        refine W_co [] [0, 1, 5] [0, 1] (s' := ⟨[(0, .c (.wh 0)), (1, .c (.wh 1)), (5, .c (.s (.b r12)))], [], [⟨(.ro false), 45, 1, l0.length, .w l0⟩, ⟨(.ro false), 45, 1, l1.length, .w l1⟩]⟩) (by kernel_rfl) (W_skip ?_)
        refine W_seq ?_
        obtain ⟨r25, g5, h⟩ := bind_some' h
        refine W_reg hT (ftL_cons (k := 2) (f := 26) (F := (pAdd_ct n r25)) (pAdd_ok n r25) (fun _ _ => True.intro) ftL_nil) [] [] [0, 1, 5, 6, 7] [0, 1, 2] (s' := ⟨[(0, .c (.wh 0)), (1, .c (.wh 1)), (5, .c (.s (.b r12))), (6, .c (.wh 2)), (7, .c (.s (.er 30 .i64 r25.2.2)))], [], [⟨(.ro false), 45, 1, l0.length, .w l0⟩, ⟨(.ro false), 45, 1, l1.length, .w l1⟩, ⟨(.ro false), 45, 1, r25.2.1, .w r25.1⟩]⟩) (by kernel_rfl) (allP_cons.2 ⟨g5, allP_nil⟩) ?_
        refine W_seq ?_
        obtain ⟨r31, g6, h⟩ := bind_some' h
        refine W_reg hT (ftL_cons (k := 2) (f := 27) (F := (pSub_ct n r31)) (pSub_ok n r31) (fun _ _ => True.intro) ftL_nil) [] [] [0, 1, 5, 6, 7, 8, 9] [0, 1, 2, 3] (s' := ⟨[(0, .c (.wh 0)), (1, .c (.wh 1)), (5, .c (.s (.b r12))), (6, .c (.wh 2)), (7, .c (.s (.er 30 .i64 r25.2.2))), (8, .c (.wh 3)), (9, .c (.s (.er 30 .i64 r31.2.2)))], [], [⟨(.ro false), 45, 1, l0.length, .w l0⟩, ⟨(.ro false), 45, 1, l1.length, .w l1⟩, ⟨(.ro false), 45, 1, r25.2.1, .w r25.1⟩, ⟨(.ro false), 45, 1, r31.2.1, .w r31.1⟩]⟩) (by kernel_rfl) (allP_cons.2 ⟨g6, allP_nil⟩) ?_
        refine W_seq ?_
        refine W_seq ?_
        obtain ⟨r35, g7, h⟩ := bind_some' h
        rcases Bool.eq_false_or_eq_true (!r35) with g8 | g8
        · replace h := bif_t h g8
          refine W_reg hT (ftL_cons (k := 1) (f := 14) (F := (rMay_ct n r35)) (rMay_ok n r35) (fun _ _ => True.intro) ftL_nil) [(3, true)] [] [0, 1, 5, 6, 7, 8, 9, 41] [0, 1, 2, 3] (s' := ⟨[(0, .c (.wh 0)), (1, .c (.wh 1)), (5, .c (.s (.b r12))), (6, .c (.wh 2)), (7, .c (.s (.er 30 .i64 r25.2.2))), (8, .c (.wh 3)), (9, .c (.s (.er 30 .i64 r31.2.2))), (41, .c (.s (.b true)))], [], [⟨(.ro false), 45, 1, l0.length, .w l0⟩, ⟨(.ro false), 45, 1, l1.length, .w l1⟩, ⟨(.ro false), 45, 1, r25.2.1, .w r25.1⟩, ⟨(.ro false), 45, 1, r31.2.1, .w r31.1⟩]⟩) (by kernel_rfl) (allP_cons.2 ⟨g7, (allP_cons.2 ⟨g8, allP_nil⟩)⟩) ?_
          refine W_cond (b := true) (by kernel_rfl) (fun _ => ?_) (fun hb => by cases hb)
          refine W_seq ?_
          rcases Bool.eq_false_or_eq_true r12 with g9 | g9
          · replace h := bif_t h g9
            obtain ⟨g10, h⟩ := gd_some h
            rcases Bool.eq_false_or_eq_true (r25.2.2 == (some 4)) with g11 | g11
            · replace h := bif_t h g11
              obtain ⟨g12, h⟩ := gd_some h
              rcases Bool.eq_false_or_eq_true (r31.2.2 == (some 4)) with g13 | g13
              · replace h := bif_t h g13
                rcases Bool.eq_false_or_eq_true (((r25.2.1 : Nat) : Int) == 0) with g14 | g14
                · replace h := bif_t h g14
                  refine W_reg hT ftL_nil [(1, true), (6, true), (11, true), (16, true)] [] [4] [] (s' := ⟨[(4, .c (.s (.b (((r31.2.1 : Nat) : Int) == 0))))], [], []⟩) (by kernel_rfl) (allP_cons.2 ⟨g9, (allP_cons.2 ⟨g10, (allP_cons.2 ⟨g11, (allP_cons.2 ⟨g12, (allP_cons.2 ⟨g13, (allP_cons.2 ⟨g14, allP_nil⟩)⟩)⟩)⟩)⟩)⟩) ?_
                  refine W_co [] [4] [] (s' := (lSums_R (((r31.2.1 : Nat) : Int) == 0))) (by kernel_rfl) (W_ret ?_)
                  exact ⟨.inl rfl, by cases h; rfl⟩
                · replace h := bif_f h g14
                  refine W_reg hT ftL_nil [(1, true), (6, true), (11, true), (16, false)] [] [4] [] (s' := ⟨[(4, .c (.s (.b false)))], [], []⟩) (by kernel_rfl) (allP_cons.2 ⟨g9, (allP_cons.2 ⟨g10, (allP_cons.2 ⟨g11, (allP_cons.2 ⟨g12, (allP_cons.2 ⟨g13, (allP_cons.2 ⟨g14, allP_nil⟩)⟩)⟩)⟩)⟩)⟩) ?_
                  refine W_co [] [4] [] (s' := (lSums_R false)) (by kernel_rfl) (W_ret ?_)
                  exact ⟨.inl rfl, by cases h; rfl⟩
              · replace h := bif_f h g13
                refine W_reg hT ftL_nil [(1, true), (6, true), (11, false)] [] [4] [] (s' := ⟨[(4, .c (.s (.b false)))], [], []⟩) (by kernel_rfl) (allP_cons.2 ⟨g9, (allP_cons.2 ⟨g10, (allP_cons.2 ⟨g11, (allP_cons.2 ⟨g12, (allP_cons.2 ⟨g13, allP_nil⟩)⟩)⟩)⟩)⟩) ?_
                refine W_co [] [4] [] (s' := (lSums_R false)) (by kernel_rfl) (W_ret ?_)
                exact ⟨.inl rfl, by cases h; rfl⟩
            · replace h := bif_f h g11
              refine W_reg hT ftL_nil [(1, true), (6, false)] [] [4] [] (s' := ⟨[(4, .c (.s (.b false)))], [], []⟩) (by kernel_rfl) (allP_cons.2 ⟨g9, (allP_cons.2 ⟨g10, (allP_cons.2 ⟨g11, allP_nil⟩)⟩)⟩) ?_
              refine W_co [] [4] [] (s' := (lSums_R false)) (by kernel_rfl) (W_ret ?_)
              exact ⟨.inl rfl, by cases h; rfl⟩
          · replace h := bif_f h g9
            refine W_reg hT ftL_nil [(1, false)] [] [4] [] (s' := ⟨[(4, .c (.s (.b false)))], [], []⟩) (by kernel_rfl) (allP_cons.2 ⟨g9, allP_nil⟩) ?_
            refine W_co [] [4] [] (s' := (lSums_R false)) (by kernel_rfl) (W_ret ?_)
            exact ⟨.inl rfl, by cases h; rfl⟩
        · replace h := bif_f h g8
          obtain ⟨r39, g15, h⟩ := bind_some' h
          refine W_reg hT (ftL_cons (k := 1) (f := 14) (F := (rMay_ct n r35)) (rMay_ok n r35) (fun _ _ => True.intro) (ftL_cons (k := 5) (f := 14) (F := (rMay_ct n r39)) (rMay_ok n r39) (fun _ _ => True.intro) ftL_nil)) [(3, false)] [] [0, 1, 5, 6, 7, 8, 9, 41] [0, 1, 2, 3] (s' := ⟨[(0, .c (.wh 0)), (1, .c (.wh 1)), (5, .c (.s (.b r12))), (6, .c (.wh 2)), (7, .c (.s (.er 30 .i64 r25.2.2))), (8, .c (.wh 3)), (9, .c (.s (.er 30 .i64 r31.2.2))), (41, .c (.s (.b (!r39))))], [], [⟨(.ro false), 45, 1, l0.length, .w l0⟩, ⟨(.ro false), 45, 1, l1.length, .w l1⟩, ⟨(.ro false), 45, 1, r25.2.1, .w r25.1⟩, ⟨(.ro false), 45, 1, r31.2.1, .w r31.1⟩]⟩) (by kernel_rfl) (allP_cons.2 ⟨g7, (allP_cons.2 ⟨g8, (allP_cons.2 ⟨g15, allP_nil⟩)⟩)⟩) ?_
          refine W_cond (b := (!r39)) (by kernel_rfl) (fun g37 => ?_) (fun g37 => ?_)
          · replace h := bif_t h g37
            refine W_seq ?_
            rcases Bool.eq_false_or_eq_true r12 with g16 | g16
            · replace h := bif_t h g16
              obtain ⟨g17, h⟩ := gd_some h
              rcases Bool.eq_false_or_eq_true (r25.2.2 == (some 4)) with g18 | g18
              · replace h := bif_t h g18
                obtain ⟨g19, h⟩ := gd_some h
                rcases Bool.eq_false_or_eq_true (r31.2.2 == (some 4)) with g20 | g20
                · replace h := bif_t h g20
                  rcases Bool.eq_false_or_eq_true (((r25.2.1 : Nat) : Int) == 0) with g21 | g21
                  · replace h := bif_t h g21
                    refine W_reg hT ftL_nil [(1, true), (6, true), (11, true), (16, true)] [] [4] [] (s' := ⟨[(4, .c (.s (.b (((r31.2.1 : Nat) : Int) == 0))))], [], []⟩) (by kernel_rfl) (allP_cons.2 ⟨g16, (allP_cons.2 ⟨g17, (allP_cons.2 ⟨g18, (allP_cons.2 ⟨g19, (allP_cons.2 ⟨g20, (allP_cons.2 ⟨g21, allP_nil⟩)⟩)⟩)⟩)⟩)⟩) ?_
                    refine W_co [] [4] [] (s' := (lSums_R (((r31.2.1 : Nat) : Int) == 0))) (by kernel_rfl) (W_ret ?_)
                    exact ⟨.inl rfl, by cases h; rfl⟩
                  · replace h := bif_f h g21
                    refine W_reg hT ftL_nil [(1, true), (6, true), (11, true), (16, false)] [] [4] [] (s' := ⟨[(4, .c (.s (.b false)))], [], []⟩) (by kernel_rfl) (allP_cons.2 ⟨g16, (allP_cons.2 ⟨g17, (allP_cons.2 ⟨g18, (allP_cons.2 ⟨g19, (allP_cons.2 ⟨g20, (allP_cons.2 ⟨g21, allP_nil⟩)⟩)⟩)⟩)⟩)⟩) ?_
                    refine W_co [] [4] [] (s' := (lSums_R false)) (by kernel_rfl) (W_ret ?_)
                    exact ⟨.inl rfl, by cases h; rfl⟩
                · replace h := bif_f h g20
                  refine W_reg hT ftL_nil [(1, true), (6, true), (11, false)] [] [4] [] (s' := ⟨[(4, .c (.s (.b false)))], [], []⟩) (by kernel_rfl) (allP_cons.2 ⟨g16, (allP_cons.2 ⟨g17, (allP_cons.2 ⟨g18, (allP_cons.2 ⟨g19, (allP_cons.2 ⟨g20, allP_nil⟩)⟩)⟩)⟩)⟩) ?_
                  refine W_co [] [4] [] (s' := (lSums_R false)) (by kernel_rfl) (W_ret ?_)
                  exact ⟨.inl rfl, by cases h; rfl⟩
              · replace h := bif_f h g18
                refine W_reg hT ftL_nil [(1, true), (6, false)] [] [4] [] (s' := ⟨[(4, .c (.s (.b false)))], [], []⟩) (by kernel_rfl) (allP_cons.2 ⟨g16, (allP_cons.2 ⟨g17, (allP_cons.2 ⟨g18, allP_nil⟩)⟩)⟩) ?_
                refine W_co [] [4] [] (s' := (lSums_R false)) (by kernel_rfl) (W_ret ?_)
                exact ⟨.inl rfl, by cases h; rfl⟩
            · replace h := bif_f h g16
              refine W_reg hT ftL_nil [(1, false)] [] [4] [] (s' := ⟨[(4, .c (.s (.b false)))], [], []⟩) (by kernel_rfl) (allP_cons.2 ⟨g16, allP_nil⟩) ?_
              refine W_co [] [4] [] (s' := (lSums_R false)) (by kernel_rfl) (W_ret ?_)
              exact ⟨.inl rfl, by cases h; rfl⟩
          · replace h := bif_f h g37
            refine W_co [] [0, 1, 5, 6, 7, 8, 9] [0, 1, 2, 3] (s' := ⟨[(0, .c (.wh 0)), (1, .c (.wh 1)), (5, .c (.s (.b r12))), (6, .c (.wh 2)), (7, .c (.s (.er 30 .i64 r25.2.2))), (8, .c (.wh 3)), (9, .c (.s (.er 30 .i64 r31.2.2)))], [], [⟨(.ro false), 45, 1, l0.length, .w l0⟩, ⟨(.ro false), 45, 1, l1.length, .w l1⟩, ⟨(.ro false), 45, 1, r25.2.1, .w r25.1⟩, ⟨(.ro false), 45, 1, r31.2.1, .w r31.1⟩]⟩) (by kernel_rfl) (W_skip ?_)
            refine W_seq ?_
            obtain ⟨r64, g22, h⟩ := bind_some' h
            refine W_reg hT (ftL_cons (k := 1) (f := 15) (F := (rOf_ct n r64)) (rOf_ok n r64) (fun _ _ => True.intro) ftL_nil) [] [] [1, 5, 6, 7, 8, 9, 10] [1, 2, 3, 4] (s' := ⟨[(1, .c (.wh 0)), (5, .c (.s (.b r12))), (6, .c (.wh 1)), (7, .c (.s (.er 30 .i64 r25.2.2))), (8, .c (.wh 2)), (9, .c (.s (.er 30 .i64 r31.2.2))), (10, .c (.wh 3))], [], [⟨(.ro false), 45, 1, l1.length, .w l1⟩, ⟨(.ro false), 45, 1, r25.2.1, .w r25.1⟩, ⟨(.ro false), 45, 1, r31.2.1, .w r31.1⟩, ⟨(.ro true), 3, 1, r64.2, .z r64.1⟩]⟩) (by kernel_rfl) (allP_cons.2 ⟨g22, allP_nil⟩) ?_
            refine W_seq ?_
            obtain ⟨r66, g23, h⟩ := bind_some' h
            refine W_reg hT (ftL_cons (k := 1) (f := 15) (F := (rOf_ct n r66)) (rOf_ok n r66) (fun _ _ => True.intro) ftL_nil) [] [] [5, 6, 7, 8, 9, 10, 11] [1, 2, 3, 4] (s' := ⟨[(5, .c (.s (.b r12))), (6, .c (.wh 0)), (7, .c (.s (.er 30 .i64 r25.2.2))), (8, .c (.wh 1)), (9, .c (.s (.er 30 .i64 r31.2.2))), (10, .c (.wh 2)), (11, .c (.wh 3))], [], [⟨(.ro false), 45, 1, r25.2.1, .w r25.1⟩, ⟨(.ro false), 45, 1, r31.2.1, .w r31.1⟩, ⟨(.ro true), 3, 1, r64.2, .z r64.1⟩, ⟨(.ro true), 3, 1, r66.2, .z r66.1⟩]⟩) (by kernel_rfl) (allP_cons.2 ⟨g23, allP_nil⟩) ?_
            refine W_seq ?_
            refine W_seq ?_
            rcases Bool.eq_false_or_eq_true (!((r25.2.2).isNone)) with g24 | g24
            · replace h := bif_t h g24
              refine W_reg hT ftL_nil [(2, true)] [] [5, 8, 9, 10, 11, 76] [1, 2, 3] (s' := ⟨[(5, .c (.s (.b r12))), (8, .c (.wh 0)), (9, .c (.s (.er 30 .i64 r31.2.2))), (10, .c (.wh 1)), (11, .c (.wh 2)), (76, .c (.s (.b true)))], [], [⟨(.ro false), 45, 1, r31.2.1, .w r31.1⟩, ⟨(.ro true), 3, 1, r64.2, .z r64.1⟩, ⟨(.ro true), 3, 1, r66.2, .z r66.1⟩]⟩) (by kernel_rfl) (allP_cons.2 ⟨g24, allP_nil⟩) ?_
              refine W_cond (b := true) (by kernel_rfl) (fun _ => ?_) (fun hb => by cases hb)
              refine W_seq ?_
              refine W_reg hT ftL_nil [] [] [4] [] (s' := ⟨[(4, .c (.s (.b false)))], [], []⟩) (by kernel_rfl) allP_nil ?_
              refine W_co [] [4] [] (s' := (lSums_R false)) (by kernel_rfl) (W_ret ?_)
              exact ⟨.inl rfl, by cases h; rfl⟩
            · replace h := bif_f h g24
              obtain ⟨r73, g25, h⟩ := bind_some' h
              obtain ⟨r74, g26, h⟩ := bind_some' h
              refine W_reg hT (ftL_cons (k := 6) (f := 28) (F := (rAdd_ct n r73)) (rAdd_ok n r73) (fun _ _ => True.intro) (ftL_cons (k := 7) (f := 17) (F := (rSame_ct n r74)) (rSame_ok n r74) (fun _ _ => True.intro) ftL_nil)) [(2, false)] [] [5, 8, 9, 10, 11, 76] [1, 2, 3] (s' := ⟨[(5, .c (.s (.b r12))), (8, .c (.wh 0)), (9, .c (.s (.er 30 .i64 r31.2.2))), (10, .c (.wh 1)), (11, .c (.wh 2)), (76, .c (.s (.b (!r74))))], [], [⟨(.ro false), 45, 1, r31.2.1, .w r31.1⟩, ⟨(.ro true), 3, 1, r64.2, .z r64.1⟩, ⟨(.ro true), 3, 1, r66.2, .z r66.1⟩]⟩) (by kernel_rfl) (allP_cons.2 ⟨g24, (allP_cons.2 ⟨g25, (allP_cons.2 ⟨g26, allP_nil⟩)⟩)⟩) ?_
              refine W_cond (b := (!r74)) (by kernel_rfl) (fun g36 => ?_) (fun g36 => ?_)
              · replace h := bif_t h g36
                refine W_seq ?_
                refine W_reg hT ftL_nil [] [] [4] [] (s' := ⟨[(4, .c (.s (.b false)))], [], []⟩) (by kernel_rfl) allP_nil ?_
                refine W_co [] [4] [] (s' := (lSums_R false)) (by kernel_rfl) (W_ret ?_)
                exact ⟨.inl rfl, by cases h; rfl⟩
              · replace h := bif_f h g36
                refine W_co [] [5, 8, 9, 10, 11] [0, 1, 2] (s' := ⟨[(5, .c (.s (.b r12))), (8, .c (.wh 0)), (9, .c (.s (.er 30 .i64 r31.2.2))), (10, .c (.wh 1)), (11, .c (.wh 2))], [], [⟨(.ro false), 45, 1, r31.2.1, .w r31.1⟩, ⟨(.ro true), 3, 1, r64.2, .z r64.1⟩, ⟨(.ro true), 3, 1, r66.2, .z r66.1⟩]⟩) (by kernel_rfl) (W_skip ?_)
                refine W_seq ?_
                refine W_seq ?_
                obtain ⟨r79, g27, h⟩ := bind_some' h
                refine W_reg hT (ftL_cons (k := 2) (f := 21) (F := (rCmp_ct n r79)) (rCmp_ok n r79) (fun _ _ => True.intro) ftL_nil) [] [] [5, 8, 9, 10, 11, 80] [0, 1, 2] (s' := ⟨[(5, .c (.s (.b r12))), (8, .c (.wh 0)), (9, .c (.s (.er 30 .i64 r31.2.2))), (10, .c (.wh 1)), (11, .c (.wh 2)), (80, .c (.s (.b (decide (r79 < (0 : Int))))))], [], [⟨(.ro false), 45, 1, r31.2.1, .w r31.1⟩, ⟨(.ro true), 3, 1, r64.2, .z r64.1⟩, ⟨(.ro true), 3, 1, r66.2, .z r66.1⟩]⟩) (by kernel_rfl) (allP_cons.2 ⟨g27, allP_nil⟩) ?_
                refine W_cond (b := (decide (r79 < (0 : Int)))) (by kernel_rfl) (fun g35 => ?_) (fun g35 => ?_)
                · replace h := bif_t h g35
                  refine W_seq ?_
                  rcases Bool.eq_false_or_eq_true r12 with g28 | g28
                  · replace h := bif_t h g28
                    obtain ⟨g29, h⟩ := gd_some h
                    rcases Bool.eq_false_or_eq_true (r31.2.2 == (some 1)) with g30 | g30
                    · replace h := bif_t h g30
                      refine W_reg hT ftL_nil [(1, true), (6, true)] [] [4] [] (s' := ⟨[(4, .c (.s (.b (((r31.2.1 : Nat) : Int) == 0))))], [], []⟩) (by kernel_rfl) (allP_cons.2 ⟨g28, (allP_cons.2 ⟨g29, (allP_cons.2 ⟨g30, allP_nil⟩)⟩)⟩) ?_
                      refine W_co [] [4] [] (s' := (lSums_R (((r31.2.1 : Nat) : Int) == 0))) (by kernel_rfl) (W_ret ?_)
                      exact ⟨.inl rfl, by cases h; rfl⟩
                    · replace h := bif_f h g30
                      refine W_reg hT ftL_nil [(1, true), (6, false)] [] [4] [] (s' := ⟨[(4, .c (.s (.b false)))], [], []⟩) (by kernel_rfl) (allP_cons.2 ⟨g28, (allP_cons.2 ⟨g29, (allP_cons.2 ⟨g30, allP_nil⟩)⟩)⟩) ?_
                      refine W_co [] [4] [] (s' := (lSums_R false)) (by kernel_rfl) (W_ret ?_)
                      exact ⟨.inl rfl, by cases h; rfl⟩
                  · replace h := bif_f h g28
                    refine W_reg hT ftL_nil [(1, false)] [] [4] [] (s' := ⟨[(4, .c (.s (.b false)))], [], []⟩) (by kernel_rfl) (allP_cons.2 ⟨g28, allP_nil⟩) ?_
                    refine W_co [] [4] [] (s' := (lSums_R false)) (by kernel_rfl) (W_ret ?_)
                    exact ⟨.inl rfl, by cases h; rfl⟩
                · replace h := bif_f h g35
                  refine W_co [] [5, 8, 9, 10, 11] [0, 1, 2] (s' := ⟨[(5, .c (.s (.b r12))), (8, .c (.wh 0)), (9, .c (.s (.er 30 .i64 r31.2.2))), (10, .c (.wh 1)), (11, .c (.wh 2))], [], [⟨(.ro false), 45, 1, r31.2.1, .w r31.1⟩, ⟨(.ro true), 3, 1, r64.2, .z r64.1⟩, ⟨(.ro true), 3, 1, r66.2, .z r66.1⟩]⟩) (by kernel_rfl) (W_skip ?_)
                  refine W_seq ?_
                  rcases Bool.eq_false_or_eq_true r12 with g31 | g31
                  · replace h := bif_t h g31
                    rcases Bool.eq_false_or_eq_true ((r31.2.2).isNone) with g32 | g32
                    · replace h := bif_t h g32
                      obtain ⟨r101, g33, h⟩ := bind_some' h
                      obtain ⟨r102, g34, h⟩ := bind_some' h
                      refine W_reg hT (ftL_cons (k := 9) (f := 29) (F := (rSub_ct n r101)) (rSub_ok n r101) (fun _ _ => True.intro) (ftL_cons (k := 10) (f := 17) (F := (rSame_ct n r102)) (rSame_ok n r102) (fun _ _ => True.intro) ftL_nil)) [(1, true), (5, true)] [] [4] [] (s' := ⟨[(4, .c (.s (.b r102)))], [], []⟩) (by kernel_rfl) (allP_cons.2 ⟨g31, (allP_cons.2 ⟨g32, (allP_cons.2 ⟨g33, (allP_cons.2 ⟨g34, allP_nil⟩)⟩)⟩)⟩) ?_
                      refine W_co [] [4] [] (s' := (lSums_R r102)) (by kernel_rfl) (W_ret ?_)
                      exact ⟨.inl rfl, by cases h; rfl⟩
                    · replace h := bif_f h g32
                      refine W_reg hT ftL_nil [(1, true), (5, false)] [] [4] [] (s' := ⟨[(4, .c (.s (.b false)))], [], []⟩) (by kernel_rfl) (allP_cons.2 ⟨g31, (allP_cons.2 ⟨g32, allP_nil⟩)⟩) ?_
                      refine W_co [] [4] [] (s' := (lSums_R false)) (by kernel_rfl) (W_ret ?_)
                      exact ⟨.inl rfl, by cases h; rfl⟩
                  · replace h := bif_f h g31
                    refine W_reg hT ftL_nil [(1, false)] [] [4] [] (s' := ⟨[(4, .c (.s (.b false)))], [], []⟩) (by kernel_rfl) (allP_cons.2 ⟨g31, allP_nil⟩) ?_
                    refine W_co [] [4] [] (s' := (lSums_R false)) (by kernel_rfl) (W_ret ?_)
                    exact ⟨.inl rfl, by cases h; rfl⟩
  · rintro e s' ⟨he, rfl⟩
    refine ⟨he, fun a' w' hr => ?_⟩
    exact retS_ok tabO_nvsums hr (rs := [.tmp 4]) rfl (objs := []) (by kernel_rfl)
end Go.Proofs.Ytpinmaodpfoinaa
