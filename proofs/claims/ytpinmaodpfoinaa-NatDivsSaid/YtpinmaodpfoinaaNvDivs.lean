import Derived.Test.YtpinmaodpfoinaaSxX
import Derived.Test.YtpinmaodpfoinaaProg
import Derived.Test.YtpinmaodpfoinaaNu
set_option linter.unusedVariables false
set_option linter.unusedSimpArgs false
namespace Go.Proofs.Ytpinmaodpfoinaa
open Go.RowKit Go.Ch Go.Sx

def tabL_nvdivs : List (TypeId × Ti) := [(3, ⟨.int .i64, 1, 8, true, some [.int .i64]⟩),
  (23, ⟨.sl 45, 1, 24, false, some [.nils]⟩),
  (27, ⟨.ifc, 1, 16, true, some [.ifc]⟩),
  (30, ⟨.int .i64, 1, 8, true, some [.int .i64]⟩),
  (32, ⟨.sl 3, 1, 24, false, some [.nils]⟩),
  (45, ⟨.int .u32, 1, 4, true, some [.int .u32]⟩)]
def tab_nvdivs : Tab := fun t => (tabL_nvdivs).lookup t
theorem tabE_nvdivs : (tabL_nvdivs.map fun p => tiOf Try.prog p.1) = tabL_nvdivs.map fun p => some p.2 := by kernel_rfl
theorem tabO_nvdivs : TabOk Try.prog tab_nvdivs := tab_of tabE_nvdivs

def lDivs (n : Nat) (a0 : List UInt32) (a1 : List UInt32) : Option (Bool) :=
  (lup n).bind fun r12 =>
  (llight n a0).bind fun r14 =>
  bif (!r14) then
    some r12
  else
    (llight n a1).bind fun r18 =>
    bif (!r18) then
      some r12
    else
      (pDiv n a0 a1).bind fun r25 =>
      (rMay n a0).bind fun r30 =>
      bif (!r30) then
        bif r12 then
          gd (¬((r25.2.2.2.2 : Option Int) = none ∧ ((some 4) : Option Int) = none)) <|
          bif (r25.2.2.2.2 == (some 4)) then
            bif (((r25.2.1 : Nat) : Int) == 0) then
              some (((r25.2.2.2.1 : Nat) : Int) == 0)
            else
              some false
          else
            some false
        else
          some false
      else
        (rMay n a1).bind fun r34 =>
        bif (!r34) then
          bif r12 then
            gd (¬((r25.2.2.2.2 : Option Int) = none ∧ ((some 4) : Option Int) = none)) <|
            bif (r25.2.2.2.2 == (some 4)) then
              bif (((r25.2.1 : Nat) : Int) == 0) then
                some (((r25.2.2.2.1 : Nat) : Int) == 0)
              else
                some false
            else
              some false
          else
            some false
        else
          (rOf n a1).bind fun r54 =>
          bif (((r54.2 : Nat) : Int) == 0) then
            bif r12 then
              gd (¬((r25.2.2.2.2 : Option Int) = none ∧ ((some 1) : Option Int) = none)) <|
              bif (r25.2.2.2.2 == (some 1)) then
                bif (((r25.2.1 : Nat) : Int) == 0) then
                  some (((r25.2.2.2.1 : Nat) : Int) == 0)
                else
                  some false
              else
                some false
            else
              some false
          else
            (rOf n a0).bind fun r76 =>
            (rDiv n r76.1 r54.1).bind fun r78 =>
            bif r12 then
              bif ((r25.2.2.2.2).isNone) then
                (rSame n r25.1 r78.1).bind fun r89 =>
                bif r89 then
                  (rSame n r25.2.2.1 r78.2.2.1).bind fun r94 =>
                  some r94
                else
                  some false
              else
                some false
            else
              some false

def lDivs_R (r : Bool) : S := ⟨[(4, .c (.s (.b r)))], [], []⟩
def lDivs_ct (n : Nat) (r : Bool) : Ct := fun args H => match args with
  | [x0, x1] => (match aW H x0 with | some l0 => (match aW H x1 with | some l1 => some ([lDivs n l0 l1 = some r], shA H.length (.c (.s (.b r))), shH H.length []) | none => none) | none => none)
  | _ => none
theorem lDivs_ok (n : Nat) (r : Bool) : FnOk Try.prog Tr 3 (lDivs_ct n r) := by
  refine ⟨fun args H g av objs hF hg ρ w vals hG hp ha => ?_, _, Try.func3, by kernel_rfl, by kernel_rfl⟩
  obtain ⟨x0, x1, rfl⟩ : ∃ x0 x1, args = [x0, x1] := by
    unfold lDivs_ct at hF; split at hF
    · exact ⟨_, _, rfl⟩
    · cases hF
  cases e0 : aW H x0 with
  | none => simp only [lDivs_ct, e0, reduceCtorEq] at hF
  | some l0 =>
  cases e1 : aW H x1 with
  | none => simp only [lDivs_ct, e0, e1, reduceCtorEq] at hF
  | some l1 =>
  simp only [lDivs_ct, e0, e1, Option.some.injEq, Prod.mk.injEq] at hF
  obtain ⟨rfl, rfl, rfl⟩ := hF
  obtain ⟨v0, vals, rfl, k0, ha⟩ := F2.inv ha
  obtain ⟨v1, vals, rfl, k1, ha⟩ := F2.inv ha
  obtain rfl := F2.inv0 ha
  have hI : ∀ w', Kp (noB (fun _ => undef)) w w' → Tr w' := fun _ hk => Tr.keep hk.below hG
  have h : lDivs n l0 l1 = some r := hg
  obtain ⟨p0, s0, o0⟩ := aW_ok hp e0 (k0) 45
  obtain ⟨p1, s1, o1⟩ := aW_ok hp e1 (k1) 45
  have hR0 := rel0 (gv := (fun _ => undef)) (n := 96) (w := w) (args := [.c (.wh 0), .c (.wh 1)]) (H := [⟨.ro false, 45, 1, l0.length, .w l0⟩, ⟨.ro false, 45, 1, l1.length, .w l1⟩]) (gl := []) (hpL (ps := [p0, p1]) (F2.cons o0 (F2.cons o1 F2.nil))) (allRo_ok rfl) (F2.cons s0 (F2.cons s1 F2.nil)) GlR.nil (by simp)
  clear ha hp hg k0 k1 e0 e1
  refine calls_W Try.func3 rfl rfl hR0 (Q := fun e s => (e = .ret ∨ e = .normal) ∧ s = lDivs_R r) ?_ ?_
  · clear hR0
    unfold lDivs at h
    have hT := tabO_nvdivs
    refine W_seq ?_
    refine W_reg hT ftL_nil [] [] [0, 1] [0, 1] (s' := ⟨[(0, .c (.wh 0)), (1, .c (.wh 1))], [], [⟨(.ro false), 45, 1, l0.length, .w l0⟩, ⟨(.ro false), 45, 1, l1.length, .w l1⟩]⟩) (by kernel_rfl) allP_nil ?_
    refine W_seq ?_
    obtain ⟨r12, g1, h⟩ := bind_some' h
    refine W_reg hT (ftL_cons (k := 0) (f := 11) (F := (lup_ct n r12)) (lup_ok n r12) (fun _ _ => True.intro) ftL_nil) [] [] [0, 1, 5] [0, 1] (s' := ⟨[(0, .c (.wh 0)), (1, .c (.wh 1)), (5, .c (.s (.b r12)))], [], [⟨(.ro false), 45, 1, l0.length, .w l0⟩, ⟨(.ro false), 45, 1, l1.length, .w l1⟩]⟩) (by kernel_rfl) (allP_cons.2 ⟨g1, allP_nil⟩) ?_
    refine W_seq ?_
    refine W_seq ?_
    obtain ⟨r14, g2, h⟩ := bind_some' h
    rcases Bool.eq_false_or_eq_true (!r14) with g3 | g3
    · replace h := bif_t h g3
      refine W_reg hT (ftL_cons (k := 1) (f := 12) (F := (llight_ct n r14)) (llight_ok n r14) (fun _ _ => True.intro) ftL_nil) [(3, true)] [] [0, 1, 5, 20] [0, 1] (s' := ⟨[(0, .c (.wh 0)), (1, .c (.wh 1)), (5, .c (.s (.b r12))), (20, .c (.s (.b true)))], [], [⟨(.ro false), 45, 1, l0.length, .w l0⟩, ⟨(.ro false), 45, 1, l1.length, .w l1⟩]⟩) (by kernel_rfl) (allP_cons.2 ⟨g2, (allP_cons.2 ⟨g3, allP_nil⟩)⟩) ?_
      refine W_cond (b := true) (by kernel_rfl) (fun _ => ?_) (fun hb => by cases hb)
      refine W_seq ?_
      refine W_reg hT ftL_nil [] [] [4] [] (s' := ⟨[(4, .c (.s (.b r12)))], [], []⟩) (by kernel_rfl) allP_nil ?_
      refine W_co [] [4] [] (s' := (lDivs_R r12)) (by kernel_rfl) (W_ret ?_)
      exact ⟨.inl rfl, by cases h; rfl⟩
    · replace h := bif_f h g3
      obtain ⟨r18, g4, h⟩ := bind_some' h
      refine W_reg hT (ftL_cons (k := 1) (f := 12) (F := (llight_ct n r14)) (llight_ok n r14) (fun _ _ => True.intro) (ftL_cons (k := 5) (f := 12) (F := (llight_ct n r18)) (llight_ok n r18) (fun _ _ => True.intro) ftL_nil)) [(3, false)] [] [0, 1, 5, 20] [0, 1] (s' := ⟨[(0, .c (.wh 0)), (1, .c (.wh 1)), (5, .c (.s (.b r12))), (20, .c (.s (.b (!r18))))], [], [⟨(.ro false), 45, 1, l0.length, .w l0⟩, ⟨(.ro false), 45, 1, l1.length, .w l1⟩]⟩) (by kernel_rfl) (allP_cons.2 ⟨g2, (allP_cons.2 ⟨g3, (allP_cons.2 ⟨g4, allP_nil⟩)⟩)⟩) ?_
      refine W_cond (b := (!r18)) (by kernel_rfl) (fun g31 => ?_) (fun g31 => ?_)
      · replace h := bif_t h g31
        refine W_seq ?_
        refine W_reg hT ftL_nil [] [] [4] [] (s' := ⟨[(4, .c (.s (.b r12)))], [], []⟩) (by kernel_rfl) allP_nil ?_
        refine W_co [] [4] [] (s' := (lDivs_R r12)) (by kernel_rfl) (W_ret ?_)
        exact ⟨.inl rfl, by cases h; rfl⟩
      · replace h := bif_f h g31
        refine W_co [] [0, 1, 5] [0, 1] (s' := ⟨[(0, .c (.wh 0)), (1, .c (.wh 1)), (5, .c (.s (.b r12)))], [], [⟨(.ro false), 45, 1, l0.length, .w l0⟩, ⟨(.ro false), 45, 1, l1.length, .w l1⟩]⟩) (by kernel_rfl) (W_skip ?_)
        refine W_seq ?_
        obtain ⟨r25, g5, h⟩ := bind_some' h
        refine W_reg hT (ftL_cons (k := 2) (f := 13) (F := (pDiv_ct n r25)) (pDiv_ok n r25) (fun _ _ => True.intro) ftL_nil) [] [] [0, 1, 5, 6, 7, 8] [0, 1, 2, 3] (s' := ⟨[(0, .c (.wh 0)), (1, .c (.wh 1)), (5, .c (.s (.b r12))), (6, .c (.wh 2)), (7, .c (.wh 3)), (8, .c (.s (.er 30 .i64 r25.2.2.2.2)))], [], [⟨(.ro false), 45, 1, l0.length, .w l0⟩, ⟨(.ro false), 45, 1, l1.length, .w l1⟩, ⟨(.ro false), 45, 1, r25.2.1, .w r25.1⟩, ⟨(.ro false), 45, 1, r25.2.2.2.1, .w r25.2.2.1⟩]⟩) (by kernel_rfl) (allP_cons.2 ⟨g5, allP_nil⟩) ?_
        refine W_seq ?_
        refine W_seq ?_
        obtain ⟨r30, g6, h⟩ := bind_some' h
        rcases Bool.eq_false_or_eq_true (!r30) with g7 | g7
        · replace h := bif_t h g7
          refine W_reg hT (ftL_cons (k := 1) (f := 14) (F := (rMay_ct n r30)) (rMay_ok n r30) (fun _ _ => True.intro) ftL_nil) [(3, true)] [] [0, 1, 5, 6, 7, 8, 36] [0, 1, 2, 3] (s' := ⟨[(0, .c (.wh 0)), (1, .c (.wh 1)), (5, .c (.s (.b r12))), (6, .c (.wh 2)), (7, .c (.wh 3)), (8, .c (.s (.er 30 .i64 r25.2.2.2.2))), (36, .c (.s (.b true)))], [], [⟨(.ro false), 45, 1, l0.length, .w l0⟩, ⟨(.ro false), 45, 1, l1.length, .w l1⟩, ⟨(.ro false), 45, 1, r25.2.1, .w r25.1⟩, ⟨(.ro false), 45, 1, r25.2.2.2.1, .w r25.2.2.1⟩]⟩) (by kernel_rfl) (allP_cons.2 ⟨g6, (allP_cons.2 ⟨g7, allP_nil⟩)⟩) ?_
          refine W_cond (b := true) (by kernel_rfl) (fun _ => ?_) (fun hb => by cases hb)
          refine W_seq ?_
          rcases Bool.eq_false_or_eq_true r12 with g8 | g8
          · replace h := bif_t h g8
            obtain ⟨g9, h⟩ := gd_some h
            rcases Bool.eq_false_or_eq_true (r25.2.2.2.2 == (some 4)) with g10 | g10
            · replace h := bif_t h g10
              rcases Bool.eq_false_or_eq_true (((r25.2.1 : Nat) : Int) == 0) with g11 | g11
              · replace h := bif_t h g11
                refine W_reg hT ftL_nil [(1, true), (6, true), (11, true)] [] [4] [] (s' := ⟨[(4, .c (.s (.b (((r25.2.2.2.1 : Nat) : Int) == 0))))], [], []⟩) (by kernel_rfl) (allP_cons.2 ⟨g8, (allP_cons.2 ⟨g9, (allP_cons.2 ⟨g10, (allP_cons.2 ⟨g11, allP_nil⟩)⟩)⟩)⟩) ?_
                refine W_co [] [4] [] (s' := (lDivs_R (((r25.2.2.2.1 : Nat) : Int) == 0))) (by kernel_rfl) (W_ret ?_)
                exact ⟨.inl rfl, by cases h; rfl⟩
              · replace h := bif_f h g11
                refine W_reg hT ftL_nil [(1, true), (6, true), (11, false)] [] [4] [] (s' := ⟨[(4, .c (.s (.b false)))], [], []⟩) (by kernel_rfl) (allP_cons.2 ⟨g8, (allP_cons.2 ⟨g9, (allP_cons.2 ⟨g10, (allP_cons.2 ⟨g11, allP_nil⟩)⟩)⟩)⟩) ?_
                refine W_co [] [4] [] (s' := (lDivs_R false)) (by kernel_rfl) (W_ret ?_)
                exact ⟨.inl rfl, by cases h; rfl⟩
            · replace h := bif_f h g10
              refine W_reg hT ftL_nil [(1, true), (6, false)] [] [4] [] (s' := ⟨[(4, .c (.s (.b false)))], [], []⟩) (by kernel_rfl) (allP_cons.2 ⟨g8, (allP_cons.2 ⟨g9, (allP_cons.2 ⟨g10, allP_nil⟩)⟩)⟩) ?_
              refine W_co [] [4] [] (s' := (lDivs_R false)) (by kernel_rfl) (W_ret ?_)
              exact ⟨.inl rfl, by cases h; rfl⟩
          · replace h := bif_f h g8
            refine W_reg hT ftL_nil [(1, false)] [] [4] [] (s' := ⟨[(4, .c (.s (.b false)))], [], []⟩) (by kernel_rfl) (allP_cons.2 ⟨g8, allP_nil⟩) ?_
            refine W_co [] [4] [] (s' := (lDivs_R false)) (by kernel_rfl) (W_ret ?_)
            exact ⟨.inl rfl, by cases h; rfl⟩
        · replace h := bif_f h g7
          obtain ⟨r34, g12, h⟩ := bind_some' h
          refine W_reg hT (ftL_cons (k := 1) (f := 14) (F := (rMay_ct n r30)) (rMay_ok n r30) (fun _ _ => True.intro) (ftL_cons (k := 5) (f := 14) (F := (rMay_ct n r34)) (rMay_ok n r34) (fun _ _ => True.intro) ftL_nil)) [(3, false)] [] [0, 1, 5, 6, 7, 8, 36] [0, 1, 2, 3] (s' := ⟨[(0, .c (.wh 0)), (1, .c (.wh 1)), (5, .c (.s (.b r12))), (6, .c (.wh 2)), (7, .c (.wh 3)), (8, .c (.s (.er 30 .i64 r25.2.2.2.2))), (36, .c (.s (.b (!r34))))], [], [⟨(.ro false), 45, 1, l0.length, .w l0⟩, ⟨(.ro false), 45, 1, l1.length, .w l1⟩, ⟨(.ro false), 45, 1, r25.2.1, .w r25.1⟩, ⟨(.ro false), 45, 1, r25.2.2.2.1, .w r25.2.2.1⟩]⟩) (by kernel_rfl) (allP_cons.2 ⟨g6, (allP_cons.2 ⟨g7, (allP_cons.2 ⟨g12, allP_nil⟩)⟩)⟩) ?_
          refine W_cond (b := (!r34)) (by kernel_rfl) (fun g30 => ?_) (fun g30 => ?_)
          · replace h := bif_t h g30
            refine W_seq ?_
            rcases Bool.eq_false_or_eq_true r12 with g13 | g13
            · replace h := bif_t h g13
              obtain ⟨g14, h⟩ := gd_some h
              rcases Bool.eq_false_or_eq_true (r25.2.2.2.2 == (some 4)) with g15 | g15
              · replace h := bif_t h g15
                rcases Bool.eq_false_or_eq_true (((r25.2.1 : Nat) : Int) == 0) with g16 | g16
                · replace h := bif_t h g16
                  refine W_reg hT ftL_nil [(1, true), (6, true), (11, true)] [] [4] [] (s' := ⟨[(4, .c (.s (.b (((r25.2.2.2.1 : Nat) : Int) == 0))))], [], []⟩) (by kernel_rfl) (allP_cons.2 ⟨g13, (allP_cons.2 ⟨g14, (allP_cons.2 ⟨g15, (allP_cons.2 ⟨g16, allP_nil⟩)⟩)⟩)⟩) ?_
                  refine W_co [] [4] [] (s' := (lDivs_R (((r25.2.2.2.1 : Nat) : Int) == 0))) (by kernel_rfl) (W_ret ?_)
                  exact ⟨.inl rfl, by cases h; rfl⟩
                · replace h := bif_f h g16
                  refine W_reg hT ftL_nil [(1, true), (6, true), (11, false)] [] [4] [] (s' := ⟨[(4, .c (.s (.b false)))], [], []⟩) (by kernel_rfl) (allP_cons.2 ⟨g13, (allP_cons.2 ⟨g14, (allP_cons.2 ⟨g15, (allP_cons.2 ⟨g16, allP_nil⟩)⟩)⟩)⟩) ?_
                  refine W_co [] [4] [] (s' := (lDivs_R false)) (by kernel_rfl) (W_ret ?_)
                  exact ⟨.inl rfl, by cases h; rfl⟩
              · replace h := bif_f h g15
                refine W_reg hT ftL_nil [(1, true), (6, false)] [] [4] [] (s' := ⟨[(4, .c (.s (.b false)))], [], []⟩) (by kernel_rfl) (allP_cons.2 ⟨g13, (allP_cons.2 ⟨g14, (allP_cons.2 ⟨g15, allP_nil⟩)⟩)⟩) ?_
                refine W_co [] [4] [] (s' := (lDivs_R false)) (by kernel_rfl) (W_ret ?_)
                exact ⟨.inl rfl, by cases h; rfl⟩
            · replace h := bif_f h g13
              refine W_reg hT ftL_nil [(1, false)] [] [4] [] (s' := ⟨[(4, .c (.s (.b false)))], [], []⟩) (by kernel_rfl) (allP_cons.2 ⟨g13, allP_nil⟩) ?_
              refine W_co [] [4] [] (s' := (lDivs_R false)) (by kernel_rfl) (W_ret ?_)
              exact ⟨.inl rfl, by cases h; rfl⟩
          · replace h := bif_f h g30
            refine W_co [] [0, 1, 5, 6, 7, 8] [0, 1, 2, 3] (s' := ⟨[(0, .c (.wh 0)), (1, .c (.wh 1)), (5, .c (.s (.b r12))), (6, .c (.wh 2)), (7, .c (.wh 3)), (8, .c (.s (.er 30 .i64 r25.2.2.2.2)))], [], [⟨(.ro false), 45, 1, l0.length, .w l0⟩, ⟨(.ro false), 45, 1, l1.length, .w l1⟩, ⟨(.ro false), 45, 1, r25.2.1, .w r25.1⟩, ⟨(.ro false), 45, 1, r25.2.2.2.1, .w r25.2.2.1⟩]⟩) (by kernel_rfl) (W_skip ?_)
            refine W_seq ?_
            obtain ⟨r54, g17, h⟩ := bind_some' h
            refine W_reg hT (ftL_cons (k := 1) (f := 15) (F := (rOf_ct n r54)) (rOf_ok n r54) (fun _ _ => True.intro) ftL_nil) [] [] [0, 5, 6, 7, 8, 9] [0, 2, 3, 4] (s' := ⟨[(0, .c (.wh 0)), (5, .c (.s (.b r12))), (6, .c (.wh 1)), (7, .c (.wh 2)), (8, .c (.s (.er 30 .i64 r25.2.2.2.2))), (9, .c (.wh 3))], [], [⟨(.ro false), 45, 1, l0.length, .w l0⟩, ⟨(.ro false), 45, 1, r25.2.1, .w r25.1⟩, ⟨(.ro false), 45, 1, r25.2.2.2.1, .w r25.2.2.1⟩, ⟨(.ro true), 3, 1, r54.2, .z r54.1⟩]⟩) (by kernel_rfl) (allP_cons.2 ⟨g17, allP_nil⟩) ?_
            refine W_seq ?_
            refine W_seq ?_
            refine W_reg hT ftL_nil [] [] [0, 5, 6, 7, 8, 9, 57] [0, 1, 2, 3] (s' := ⟨[(0, .c (.wh 0)), (5, .c (.s (.b r12))), (6, .c (.wh 1)), (7, .c (.wh 2)), (8, .c (.s (.er 30 .i64 r25.2.2.2.2))), (9, .c (.wh 3)), (57, .c (.s (.b (((r54.2 : Nat) : Int) == 0))))], [], [⟨(.ro false), 45, 1, l0.length, .w l0⟩, ⟨(.ro false), 45, 1, r25.2.1, .w r25.1⟩, ⟨(.ro false), 45, 1, r25.2.2.2.1, .w r25.2.2.1⟩, ⟨(.ro true), 3, 1, r54.2, .z r54.1⟩]⟩) (by kernel_rfl) allP_nil ?_
            refine W_cond (b := (((r54.2 : Nat) : Int) == 0)) (by kernel_rfl) (fun g29 => ?_) (fun g29 => ?_)
            · replace h := bif_t h g29
              refine W_seq ?_
              rcases Bool.eq_false_or_eq_true r12 with g18 | g18
              · replace h := bif_t h g18
                obtain ⟨g19, h⟩ := gd_some h
                rcases Bool.eq_false_or_eq_true (r25.2.2.2.2 == (some 1)) with g20 | g20
                · replace h := bif_t h g20
                  rcases Bool.eq_false_or_eq_true (((r25.2.1 : Nat) : Int) == 0) with g21 | g21
                  · replace h := bif_t h g21
                    refine W_reg hT ftL_nil [(1, true), (6, true), (11, true)] [] [4] [] (s' := ⟨[(4, .c (.s (.b (((r25.2.2.2.1 : Nat) : Int) == 0))))], [], []⟩) (by kernel_rfl) (allP_cons.2 ⟨g18, (allP_cons.2 ⟨g19, (allP_cons.2 ⟨g20, (allP_cons.2 ⟨g21, allP_nil⟩)⟩)⟩)⟩) ?_
                    refine W_co [] [4] [] (s' := (lDivs_R (((r25.2.2.2.1 : Nat) : Int) == 0))) (by kernel_rfl) (W_ret ?_)
                    exact ⟨.inl rfl, by cases h; rfl⟩
                  · replace h := bif_f h g21
                    refine W_reg hT ftL_nil [(1, true), (6, true), (11, false)] [] [4] [] (s' := ⟨[(4, .c (.s (.b false)))], [], []⟩) (by kernel_rfl) (allP_cons.2 ⟨g18, (allP_cons.2 ⟨g19, (allP_cons.2 ⟨g20, (allP_cons.2 ⟨g21, allP_nil⟩)⟩)⟩)⟩) ?_
                    refine W_co [] [4] [] (s' := (lDivs_R false)) (by kernel_rfl) (W_ret ?_)
                    exact ⟨.inl rfl, by cases h; rfl⟩
                · replace h := bif_f h g20
                  refine W_reg hT ftL_nil [(1, true), (6, false)] [] [4] [] (s' := ⟨[(4, .c (.s (.b false)))], [], []⟩) (by kernel_rfl) (allP_cons.2 ⟨g18, (allP_cons.2 ⟨g19, (allP_cons.2 ⟨g20, allP_nil⟩)⟩)⟩) ?_
                  refine W_co [] [4] [] (s' := (lDivs_R false)) (by kernel_rfl) (W_ret ?_)
                  exact ⟨.inl rfl, by cases h; rfl⟩
              · replace h := bif_f h g18
                refine W_reg hT ftL_nil [(1, false)] [] [4] [] (s' := ⟨[(4, .c (.s (.b false)))], [], []⟩) (by kernel_rfl) (allP_cons.2 ⟨g18, allP_nil⟩) ?_
                refine W_co [] [4] [] (s' := (lDivs_R false)) (by kernel_rfl) (W_ret ?_)
                exact ⟨.inl rfl, by cases h; rfl⟩
            · replace h := bif_f h g29
              refine W_co [] [0, 5, 6, 7, 8, 9] [0, 1, 2, 3] (s' := ⟨[(0, .c (.wh 0)), (5, .c (.s (.b r12))), (6, .c (.wh 1)), (7, .c (.wh 2)), (8, .c (.s (.er 30 .i64 r25.2.2.2.2))), (9, .c (.wh 3))], [], [⟨(.ro false), 45, 1, l0.length, .w l0⟩, ⟨(.ro false), 45, 1, r25.2.1, .w r25.1⟩, ⟨(.ro false), 45, 1, r25.2.2.2.1, .w r25.2.2.1⟩, ⟨(.ro true), 3, 1, r54.2, .z r54.1⟩]⟩) (by kernel_rfl) (W_skip ?_)
              refine W_seq ?_
              obtain ⟨r76, g22, h⟩ := bind_some' h
              obtain ⟨r78, g23, h⟩ := bind_some' h
              refine W_reg hT (ftL_cons (k := 1) (f := 15) (F := (rOf_ct n r76)) (rOf_ok n r76) (fun _ _ => True.intro) (ftL_cons (k := 3) (f := 16) (F := (rDiv_ct n r78)) (rDiv_ok n r78) (fun _ _ => True.intro) ftL_nil)) [] [] [5, 6, 7, 8, 10, 11] [1, 2, 5, 6] (s' := ⟨[(5, .c (.s (.b r12))), (6, .c (.wh 0)), (7, .c (.wh 1)), (8, .c (.s (.er 30 .i64 r25.2.2.2.2))), (10, .c (.wh 2)), (11, .c (.wh 3))], [], [⟨(.ro false), 45, 1, r25.2.1, .w r25.1⟩, ⟨(.ro false), 45, 1, r25.2.2.2.1, .w r25.2.2.1⟩, ⟨(.ro true), 3, 1, r78.2.1, .z r78.1⟩, ⟨(.ro true), 3, 1, r78.2.2.2, .z r78.2.2.1⟩]⟩) (by kernel_rfl) (allP_cons.2 ⟨g22, (allP_cons.2 ⟨g23, allP_nil⟩)⟩) ?_
              refine W_seq ?_
              rcases Bool.eq_false_or_eq_true r12 with g24 | g24
              · replace h := bif_t h g24
                rcases Bool.eq_false_or_eq_true ((r25.2.2.2.2).isNone) with g25 | g25
                · replace h := bif_t h g25
                  obtain ⟨r89, g26, h⟩ := bind_some' h
                  rcases Bool.eq_false_or_eq_true r89 with g27 | g27
                  · replace h := bif_t h g27
                    obtain ⟨r94, g28, h⟩ := bind_some' h
                    refine W_reg hT (ftL_cons (k := 8) (f := 17) (F := (rSame_ct n r89)) (rSame_ok n r89) (fun _ _ => True.intro) (ftL_cons (k := 13) (f := 17) (F := (rSame_ct n r94)) (rSame_ok n r94) (fun _ _ => True.intro) ftL_nil)) [(1, true), (5, true), (10, true)] [] [4] [] (s' := ⟨[(4, .c (.s (.b r94)))], [], []⟩) (by kernel_rfl) (allP_cons.2 ⟨g24, (allP_cons.2 ⟨g25, (allP_cons.2 ⟨g26, (allP_cons.2 ⟨g27, (allP_cons.2 ⟨g28, allP_nil⟩)⟩)⟩)⟩)⟩) ?_
                    refine W_co [] [4] [] (s' := (lDivs_R r94)) (by kernel_rfl) (W_ret ?_)
                    exact ⟨.inl rfl, by cases h; rfl⟩
                  · replace h := bif_f h g27
                    refine W_reg hT (ftL_cons (k := 8) (f := 17) (F := (rSame_ct n r89)) (rSame_ok n r89) (fun _ _ => True.intro) ftL_nil) [(1, true), (5, true), (10, false)] [] [4] [] (s' := ⟨[(4, .c (.s (.b false)))], [], []⟩) (by kernel_rfl) (allP_cons.2 ⟨g24, (allP_cons.2 ⟨g25, (allP_cons.2 ⟨g26, (allP_cons.2 ⟨g27, allP_nil⟩)⟩)⟩)⟩) ?_
                    refine W_co [] [4] [] (s' := (lDivs_R false)) (by kernel_rfl) (W_ret ?_)
                    exact ⟨.inl rfl, by cases h; rfl⟩
                · replace h := bif_f h g25
                  refine W_reg hT ftL_nil [(1, true), (5, false)] [] [4] [] (s' := ⟨[(4, .c (.s (.b false)))], [], []⟩) (by kernel_rfl) (allP_cons.2 ⟨g24, (allP_cons.2 ⟨g25, allP_nil⟩)⟩) ?_
                  refine W_co [] [4] [] (s' := (lDivs_R false)) (by kernel_rfl) (W_ret ?_)
                  exact ⟨.inl rfl, by cases h; rfl⟩
              · replace h := bif_f h g24
                refine W_reg hT ftL_nil [(1, false)] [] [4] [] (s' := ⟨[(4, .c (.s (.b false)))], [], []⟩) (by kernel_rfl) (allP_cons.2 ⟨g24, allP_nil⟩) ?_
                refine W_co [] [4] [] (s' := (lDivs_R false)) (by kernel_rfl) (W_ret ?_)
                exact ⟨.inl rfl, by cases h; rfl⟩
  · rintro e s' ⟨he, rfl⟩
    refine ⟨he, fun a' w' hr => ?_⟩
    exact retS_ok tabO_nvdivs hr (rs := [.tmp 4]) rfl (objs := []) (by kernel_rfl)
end Go.Proofs.Ytpinmaodpfoinaa
