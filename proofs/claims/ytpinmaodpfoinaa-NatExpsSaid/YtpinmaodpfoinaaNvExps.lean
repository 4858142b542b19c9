import Derived.Test.YtpinmaodpfoinaaSxX
import Derived.Test.YtpinmaodpfoinaaProg
import Derived.Test.YtpinmaodpfoinaaNu
set_option linter.unusedVariables false
set_option linter.unusedSimpArgs false
namespace Go.Proofs.Ytpinmaodpfoinaa
open Go.RowKit Go.Ch Go.Sx

def tabL_nvexps : List (TypeId × Ti) := [(3, ⟨.int .i64, 1, 8, true, some [.int .i64]⟩),
  (23, ⟨.sl 45, 1, 24, false, some [.nils]⟩),
  (27, ⟨.ifc, 1, 16, true, some [.ifc]⟩),
  (30, ⟨.int .i64, 1, 8, true, some [.int .i64]⟩),
  (32, ⟨.sl 3, 1, 24, false, some [.nils]⟩),
  (45, ⟨.int .u32, 1, 4, true, some [.int .u32]⟩)]
def tab_nvexps : Tab := fun t => (tabL_nvexps).lookup t
theorem tabE_nvexps : (tabL_nvexps.map fun p => tiOf Try.prog p.1) = tabL_nvexps.map fun p => some p.2 := by kernel_rfl
theorem tabO_nvexps : TabOk Try.prog tab_nvexps := tab_of tabE_nvexps

def lExps (n : Nat) (a0 : List UInt32) (a1 : List UInt32) (a2 : List UInt32) : Option (Bool) :=
  (lup n).bind fun r11 =>
  (llight n a0).bind fun r13 =>
  bif (!r13) then
    some r11
  else
    bif (decide ((3 : Int) < ((a1.length : Nat) : Int))) then
      bif (decide (((a1.length : Nat) : Int) ≤ (64 : Int))) then
        some r11
      else
        (llight n a1).bind fun r27 =>
        bif (!r27) then
          some r11
        else
          bif (decide ((8 : Int) < ((a2.length : Nat) : Int))) then
            bif (decide (((a2.length : Nat) : Int) ≤ (64 : Int))) then
              some r11
            else
              (llight n a2).bind fun r42 =>
              bif (!r42) then
                some r11
              else
                (pExp n a0 a1 a2).bind fun r50 =>
                (rMay n a0).bind fun r54 =>
                bif (!r54) then
                  bif r11 then
                    gd (¬((r50.2 : Option Int) = none ∧ ((some 4) : Option Int) = none)) <|
                    bif (r50.2 == (some 4)) then
                      some (((r50.1.length : Nat) : Int) == 0)
                    else
                      some false
                  else
                    some false
                else
                  (rMay n a1).bind fun r58 =>
                  bif (!r58) then
                    bif r11 then
                      gd (¬((r50.2 : Option Int) = none ∧ ((some 4) : Option Int) = none)) <|
                      bif (r50.2 == (some 4)) then
                        some (((r50.1.length : Nat) : Int) == 0)
                      else
                        some false
                    else
                      some false
                  else
                    (rMay n a2).bind fun r63 =>
                    bif (!r63) then
                      bif r11 then
                        gd (¬((r50.2 : Option Int) = none ∧ ((some 4) : Option Int) = none)) <|
                        bif (r50.2 == (some 4)) then
                          some (((r50.1.length : Nat) : Int) == 0)
                        else
                          some false
                      else
                        some false
                    else
                      (rOf n a2).bind fun r78 =>
                      bif (((r78.2 : Nat) : Int) == 0) then
                        bif r11 then
                          gd (¬((r50.2 : Option Int) = none ∧ ((some 1) : Option Int) = none)) <|
                          bif (r50.2 == (some 1)) then
                            some (((r50.1.length : Nat) : Int) == 0)
                          else
                            some false
                        else
                          some false
                      else
                        bif r11 then
                          bif ((r50.2).isNone) then
                            (rOf n a0).bind fun r101 =>
                            (rOf n a1).bind fun r103 =>
                            (rExp n r101.1 r103.1 r78.1).bind fun r105 =>
                            (rSame n r50.1 r105.1).bind fun r106 =>
                            some r106
                          else
                            some false
                        else
                          some false
          else
            (llight n a2).bind fun r42 =>
            bif (!r42) then
              some r11
            else
              (pExp n a0 a1 a2).bind fun r50 =>
              (rMay n a0).bind fun r54 =>
              bif (!r54) then
                bif r11 then
                  gd (¬((r50.2 : Option Int) = none ∧ ((some 4) : Option Int) = none)) <|
                  bif (r50.2 == (some 4)) then
                    some (((r50.1.length : Nat) : Int) == 0)
                  else
                    some false
                else
                  some false
              else
                (rMay n a1).bind fun r58 =>
                bif (!r58) then
                  bif r11 then
                    gd (¬((r50.2 : Option Int) = none ∧ ((some 4) : Option Int) = none)) <|
                    bif (r50.2 == (some 4)) then
                      some (((r50.1.length : Nat) : Int) == 0)
                    else
                      some false
                  else
                    some false
                else
                  (rMay n a2).bind fun r63 =>
                  bif (!r63) then
                    bif r11 then
                      gd (¬((r50.2 : Option Int) = none ∧ ((some 4) : Option Int) = none)) <|
                      bif (r50.2 == (some 4)) then
                        some (((r50.1.length : Nat) : Int) == 0)
                      else
                        some false
                    else
                      some false
                  else
                    (rOf n a2).bind fun r78 =>
                    bif (((r78.2 : Nat) : Int) == 0) then
                      bif r11 then
                        gd (¬((r50.2 : Option Int) = none ∧ ((some 1) : Option Int) = none)) <|
                        bif (r50.2 == (some 1)) then
                          some (((r50.1.length : Nat) : Int) == 0)
                        else
                          some false
                      else
                        some false
                    else
                      bif r11 then
                        bif ((r50.2).isNone) then
                          (rOf n a0).bind fun r101 =>
                          (rOf n a1).bind fun r103 =>
                          (rExp n r101.1 r103.1 r78.1).bind fun r105 =>
                          (rSame n r50.1 r105.1).bind fun r106 =>
                          some r106
                        else
                          some false
                      else
                        some false
    else
      (llight n a1).bind fun r27 =>
      bif (!r27) then
        some r11
      else
        bif (decide ((8 : Int) < ((a2.length : Nat) : Int))) then
          bif (decide (((a2.length : Nat) : Int) ≤ (64 : Int))) then
            some r11
          else
            (llight n a2).bind fun r42 =>
            bif (!r42) then
              some r11
            else
              (pExp n a0 a1 a2).bind fun r50 =>
              (rMay n a0).bind fun r54 =>
              bif (!r54) then
                bif r11 then
                  gd (¬((r50.2 : Option Int) = none ∧ ((some 4) : Option Int) = none)) <|
                  bif (r50.2 == (some 4)) then
                    some (((r50.1.length : Nat) : Int) == 0)
                  else
                    some false
                else
                  some false
              else
                (rMay n a1).bind fun r58 =>
                bif (!r58) then
                  bif r11 then
                    gd (¬((r50.2 : Option Int) = none ∧ ((some 4) : Option Int) = none)) <|
                    bif (r50.2 == (some 4)) then
                      some (((r50.1.length : Nat) : Int) == 0)
                    else
                      some false
                  else
                    some false
                else
                  (rMay n a2).bind fun r63 =>
                  bif (!r63) then
                    bif r11 then
                      gd (¬((r50.2 : Option Int) = none ∧ ((some 4) : Option Int) = none)) <|
                      bif (r50.2 == (some 4)) then
                        some (((r50.1.length : Nat) : Int) == 0)
                      else
                        some false
                    else
                      some false
                  else
                    (rOf n a2).bind fun r78 =>
                    bif (((r78.2 : Nat) : Int) == 0) then
                      bif r11 then
                        gd (¬((r50.2 : Option Int) = none ∧ ((some 1) : Option Int) = none)) <|
                        bif (r50.2 == (some 1)) then
                          some (((r50.1.length : Nat) : Int) == 0)
                        else
                          some false
                      else
                        some false
                    else
                      bif r11 then
                        bif ((r50.2).isNone) then
                          (rOf n a0).bind fun r101 =>
                          (rOf n a1).bind fun r103 =>
                          (rExp n r101.1 r103.1 r78.1).bind fun r105 =>
                          (rSame n r50.1 r105.1).bind fun r106 =>
                          some r106
                        else
                          some false
                      else
                        some false
        else
          (llight n a2).bind fun r42 =>
          bif (!r42) then
            some r11
          else
            (pExp n a0 a1 a2).bind fun r50 =>
            (rMay n a0).bind fun r54 =>
            bif (!r54) then
              bif r11 then
                gd (¬((r50.2 : Option Int) = none ∧ ((some 4) : Option Int) = none)) <|
                bif (r50.2 == (some 4)) then
                  some (((r50.1.length : Nat) : Int) == 0)
                else
                  some false
              else
                some false
            else
              (rMay n a1).bind fun r58 =>
              bif (!r58) then
                bif r11 then
                  gd (¬((r50.2 : Option Int) = none ∧ ((some 4) : Option Int) = none)) <|
                  bif (r50.2 == (some 4)) then
                    some (((r50.1.length : Nat) : Int) == 0)
                  else
                    some false
                else
                  some false
              else
                (rMay n a2).bind fun r63 =>
                bif (!r63) then
                  bif r11 then
                    gd (¬((r50.2 : Option Int) = none ∧ ((some 4) : Option Int) = none)) <|
                    bif (r50.2 == (some 4)) then
                      some (((r50.1.length : Nat) : Int) == 0)
                    else
                      some false
                  else
                    some false
                else
                  (rOf n a2).bind fun r78 =>
                  bif (((r78.2 : Nat) : Int) == 0) then
                    bif r11 then
                      gd (¬((r50.2 : Option Int) = none ∧ ((some 1) : Option Int) = none)) <|
                      bif (r50.2 == (some 1)) then
                        some (((r50.1.length : Nat) : Int) == 0)
                      else
                        some false
                    else
                      some false
                  else
                    bif r11 then
                      bif ((r50.2).isNone) then
                        (rOf n a0).bind fun r101 =>
                        (rOf n a1).bind fun r103 =>
                        (rExp n r101.1 r103.1 r78.1).bind fun r105 =>
                        (rSame n r50.1 r105.1).bind fun r106 =>
                        some r106
                      else
                        some false
                    else
                      some false

def lExps_R (r : Bool) : S := ⟨[(6, .c (.s (.b r)))], [], []⟩
def lExps_ct (n : Nat) (r : Bool) : Ct := fun args H => match args with
  | [x0, x1, x2] => (match aW H x0 with | some l0 => (match aW H x1 with | some l1 => (match aW H x2 with | some l2 => some ([lExps n l0 l1 l2 = some r], shA H.length (.c (.s (.b r))), shH H.length []) | none => none) | none => none) | none => none)
  | _ => none
theorem lExps_ok (n : Nat) (r : Bool) : FnOk Try.prog Tr 4 (lExps_ct n r) := by
  refine ⟨fun args H g av objs hF hg ρ w vals hG hp ha => ?_, _, Try.func4, by kernel_rfl, by kernel_rfl⟩
  obtain ⟨x0, x1, x2, rfl⟩ : ∃ x0 x1 x2, args = [x0, x1, x2] := by
    unfold lExps_ct at hF; split at hF
    · exact ⟨_, _, _, rfl⟩
    · cases hF
  cases e0 : aW H x0 with
  | none => simp only [lExps_ct, e0, reduceCtorEq] at hF
  | some l0 =>
  cases e1 : aW H x1 with
  | none => simp only [lExps_ct, e0, e1, reduceCtorEq] at hF
  | some l1 =>
  cases e2 : aW H x2 with
  | none => simp only [lExps_ct, e0, e1, e2, reduceCtorEq] at hF
  | some l2 =>
  simp only [lExps_ct, e0, e1, e2, Option.some.injEq, Prod.mk.injEq] at hF
  obtain ⟨rfl, rfl, rfl⟩ := hF
  obtain ⟨v0, vals, rfl, k0, ha⟩ := F2.inv ha
  obtain ⟨v1, vals, rfl, k1, ha⟩ := F2.inv ha
  obtain ⟨v2, vals, rfl, k2, ha⟩ := F2.inv ha
  obtain rfl := F2.inv0 ha
  have hI : ∀ w', Kp (noB (fun _ => undef)) w w' → Tr w' := fun _ hk => Tr.keep hk.below hG
  have h : lExps n l0 l1 l2 = some r := hg
  obtain ⟨p0, s0, o0⟩ := aW_ok hp e0 (k0) 45
  obtain ⟨p1, s1, o1⟩ := aW_ok hp e1 (k1) 45
  obtain ⟨p2, s2, o2⟩ := aW_ok hp e2 (k2) 45
  have hR0 := rel0 (gv := (fun _ => undef)) (n := 108) (w := w) (args := [.c (.wh 0), .c (.wh 1), .c (.wh 2)]) (H := [⟨.ro false, 45, 1, l0.length, .w l0⟩, ⟨.ro false, 45, 1, l1.length, .w l1⟩, ⟨.ro false, 45, 1, l2.length, .w l2⟩]) (gl := []) (hpL (ps := [p0, p1, p2]) (F2.cons o0 (F2.cons o1 (F2.cons o2 F2.nil)))) (allRo_ok rfl) (F2.cons s0 (F2.cons s1 (F2.cons s2 F2.nil))) GlR.nil (by simp)
  clear ha hp hg k0 k1 k2 e0 e1 e2
  refine calls_W Try.func4 rfl rfl hR0 (Q := fun e s => (e = .ret ∨ e = .normal) ∧ s = lExps_R r) ?_ ?_
  · clear hR0
    unfold lExps at h
    have hT := tabO_nvexps
    refine W_seq ?_
    refine W_reg hT ftL_nil [] [] [0, 1, 2] [0, 1, 2] (s' := ⟨[(0, .c (.wh 0)), (1, .c (.wh 1)), (2, .c (.wh 2))], [], [⟨(.ro false), 45, 1, l0.length, .w l0⟩, ⟨(.ro false), 45, 1, l1.length, .w l1⟩, ⟨(.ro false), 45, 1, l2.length, .w l2⟩]⟩) (by kernel_rfl) allP_nil ?_
    refine W_seq ?_
    obtain ⟨r11, g1, h⟩ := bind_some' h
    refine W_reg hT (ftL_cons (k := 0) (f := 11) (F := (lup_ct n r11)) (lup_ok n r11) (fun _ _ => True.intro) ftL_nil) [] [] [0, 1, 2, 7] [0, 1, 2] (s' := ⟨[(0, .c (.wh 0)), (1, .c (.wh 1)), (2, .c (.wh 2)), (7, .c (.s (.b r11)))], [], [⟨(.ro false), 45, 1, l0.length, .w l0⟩, ⟨(.ro false), 45, 1, l1.length, .w l1⟩, ⟨(.ro false), 45, 1, l2.length, .w l2⟩]⟩) (by kernel_rfl) (allP_cons.2 ⟨g1, allP_nil⟩) ?_
    refine W_seq ?_
    refine W_seq ?_
    obtain ⟨r13, g2, h⟩ := bind_some' h
    rcases Bool.eq_false_or_eq_true (!r13) with g3 | g3
    · replace h := bif_t h g3
      refine W_reg hT (ftL_cons (k := 1) (f := 12) (F := (llight_ct n r13)) (llight_ok n r13) (fun _ _ => True.intro) ftL_nil) [(3, true)] [] [0, 1, 2, 7, 44] [0, 1, 2] (s' := ⟨[(0, .c (.wh 0)), (1, .c (.wh 1)), (2, .c (.wh 2)), (7, .c (.s (.b r11))), (44, .c (.s (.b true)))], [], [⟨(.ro false), 45, 1, l0.length, .w l0⟩, ⟨(.ro false), 45, 1, l1.length, .w l1⟩, ⟨(.ro false), 45, 1, l2.length, .w l2⟩]⟩) (by kernel_rfl) (allP_cons.2 ⟨g2, (allP_cons.2 ⟨g3, allP_nil⟩)⟩) ?_
      refine W_cond (b := true) (by kernel_rfl) (fun _ => ?_) (fun hb => by cases hb)
      refine W_seq ?_
      refine W_reg hT ftL_nil [] [] [6] [] (s' := ⟨[(6, .c (.s (.b r11)))], [], []⟩) (by kernel_rfl) allP_nil ?_
      refine W_co [] [6] [] (s' := (lExps_R r11)) (by kernel_rfl) (W_ret ?_)
      exact ⟨.inl rfl, by cases h; rfl⟩
    · replace h := bif_f h g3
      rcases Bool.eq_false_or_eq_true (decide ((3 : Int) < ((l1.length : Nat) : Int))) with g4 | g4
      · replace h := bif_t h g4
        rcases Bool.eq_false_or_eq_true (decide (((l1.length : Nat) : Int) ≤ (64 : Int))) with g5 | g5
        · replace h := bif_t h g5
          refine W_reg hT (ftL_cons (k := 1) (f := 12) (F := (llight_ct n r13)) (llight_ok n r13) (fun _ _ => True.intro) ftL_nil) [(3, false), (7, true), (13, true)] [] [0, 1, 2, 7, 44] [0, 1, 2] (s' := ⟨[(0, .c (.wh 0)), (1, .c (.wh 1)), (2, .c (.wh 2)), (7, .c (.s (.b r11))), (44, .c (.s (.b true)))], [], [⟨(.ro false), 45, 1, l0.length, .w l0⟩, ⟨(.ro false), 45, 1, l1.length, .w l1⟩, ⟨(.ro false), 45, 1, l2.length, .w l2⟩]⟩) (by kernel_rfl) (allP_cons.2 ⟨g2, (allP_cons.2 ⟨g3, (allP_cons.2 ⟨g4, (allP_cons.2 ⟨g5, allP_nil⟩)⟩)⟩)⟩) ?_
          refine W_cond (b := true) (by kernel_rfl) (fun _ => ?_) (fun hb => by cases hb)
          refine W_seq ?_
          refine W_reg hT ftL_nil [] [] [6] [] (s' := ⟨[(6, .c (.s (.b r11)))], [], []⟩) (by kernel_rfl) allP_nil ?_
          refine W_co [] [6] [] (s' := (lExps_R r11)) (by kernel_rfl) (W_ret ?_)
          exact ⟨.inl rfl, by cases h; rfl⟩
        · replace h := bif_f h g5
          obtain ⟨r27, g6, h⟩ := bind_some' h
          rcases Bool.eq_false_or_eq_true (!r27) with g7 | g7
          · replace h := bif_t h g7
            refine W_reg hT (ftL_cons (k := 1) (f := 12) (F := (llight_ct n r13)) (llight_ok n r13) (fun _ _ => True.intro) (ftL_cons (k := 15) (f := 12) (F := (llight_ct n r27)) (llight_ok n r27) (fun _ _ => True.intro) ftL_nil)) [(3, false), (7, true), (13, false), (18, true)] [] [0, 1, 2, 7, 44] [0, 1, 2] (s' := ⟨[(0, .c (.wh 0)), (1, .c (.wh 1)), (2, .c (.wh 2)), (7, .c (.s (.b r11))), (44, .c (.s (.b true)))], [], [⟨(.ro false), 45, 1, l0.length, .w l0⟩, ⟨(.ro false), 45, 1, l1.length, .w l1⟩, ⟨(.ro false), 45, 1, l2.length, .w l2⟩]⟩) (by kernel_rfl) (allP_cons.2 ⟨g2, (allP_cons.2 ⟨g3, (allP_cons.2 ⟨g4, (allP_cons.2 ⟨g5, (allP_cons.2 ⟨g6, (allP_cons.2 ⟨g7, allP_nil⟩)⟩)⟩)⟩)⟩)⟩) ?_
            refine W_cond (b := true) (by kernel_rfl) (fun _ => ?_) (fun hb => by cases hb)
            refine W_seq ?_
            refine W_reg hT ftL_nil [] [] [6] [] (s' := ⟨[(6, .c (.s (.b r11)))], [], []⟩) (by kernel_rfl) allP_nil ?_
            refine W_co [] [6] [] (s' := (lExps_R r11)) (by kernel_rfl) (W_ret ?_)
            exact ⟨.inl rfl, by cases h; rfl⟩
          · replace h := bif_f h g7
            rcases Bool.eq_false_or_eq_true (decide ((8 : Int) < ((l2.length : Nat) : Int))) with g8 | g8
            · replace h := bif_t h g8
              rcases Bool.eq_false_or_eq_true (decide (((l2.length : Nat) : Int) ≤ (64 : Int))) with g9 | g9
              · replace h := bif_t h g9
                refine W_reg hT (ftL_cons (k := 1) (f := 12) (F := (llight_ct n r13)) (llight_ok n r13) (fun _ _ => True.intro) (ftL_cons (k := 15) (f := 12) (F := (llight_ct n r27)) (llight_ok n r27) (fun _ _ => True.intro) ftL_nil)) [(3, false), (7, true), (13, false), (18, false), (22, true), (28, true)] [] [0, 1, 2, 7, 44] [0, 1, 2] (s' := ⟨[(0, .c (.wh 0)), (1, .c (.wh 1)), (2, .c (.wh 2)), (7, .c (.s (.b r11))), (44, .c (.s (.b true)))], [], [⟨(.ro false), 45, 1, l0.length, .w l0⟩, ⟨(.ro false), 45, 1, l1.length, .w l1⟩, ⟨(.ro false), 45, 1, l2.length, .w l2⟩]⟩) (by kernel_rfl) (allP_cons.2 ⟨g2, (allP_cons.2 ⟨g3, (allP_cons.2 ⟨g4, (allP_cons.2 ⟨g5, (allP_cons.2 ⟨g6, (allP_cons.2 ⟨g7, (allP_cons.2 ⟨g8, (allP_cons.2 ⟨g9, allP_nil⟩)⟩)⟩)⟩)⟩)⟩)⟩)⟩) ?_
                refine W_cond (b := true) (by kernel_rfl) (fun _ => ?_) (fun hb => by cases hb)
                refine W_seq ?_
                refine W_reg hT ftL_nil [] [] [6] [] (s' := ⟨[(6, .c (.s (.b r11)))], [], []⟩) (by kernel_rfl) allP_nil ?_
                refine W_co [] [6] [] (s' := (lExps_R r11)) (by kernel_rfl) (W_ret ?_)
                exact ⟨.inl rfl, by cases h; rfl⟩
              · replace h := bif_f h g9
                obtain ⟨r42, g10, h⟩ := bind_some' h
                refine W_reg hT (ftL_cons (k := 1) (f := 12) (F := (llight_ct n r13)) (llight_ok n r13) (fun _ _ => True.intro) (ftL_cons (k := 15) (f := 12) (F := (llight_ct n r27)) (llight_ok n r27) (fun _ _ => True.intro) (ftL_cons (k := 30) (f := 12) (F := (llight_ct n r42)) (llight_ok n r42) (fun _ _ => True.intro) ftL_nil))) [(3, false), (7, true), (13, false), (18, false), (22, true), (28, false)] [] [0, 1, 2, 7, 44] [0, 1, 2] (s' := ⟨[(0, .c (.wh 0)), (1, .c (.wh 1)), (2, .c (.wh 2)), (7, .c (.s (.b r11))), (44, .c (.s (.b (!r42))))], [], [⟨(.ro false), 45, 1, l0.length, .w l0⟩, ⟨(.ro false), 45, 1, l1.length, .w l1⟩, ⟨(.ro false), 45, 1, l2.length, .w l2⟩]⟩) (by kernel_rfl) (allP_cons.2 ⟨g2, (allP_cons.2 ⟨g3, (allP_cons.2 ⟨g4, (allP_cons.2 ⟨g5, (allP_cons.2 ⟨g6, (allP_cons.2 ⟨g7, (allP_cons.2 ⟨g8, (allP_cons.2 ⟨g9, (allP_cons.2 ⟨g10, allP_nil⟩)⟩)⟩)⟩)⟩)⟩)⟩)⟩)⟩) ?_
                refine W_cond (b := (!r42)) (by kernel_rfl) (fun g38 => ?_) (fun g38 => ?_)
                · replace h := bif_t h g38
                  refine W_seq ?_
                  refine W_reg hT ftL_nil [] [] [6] [] (s' := ⟨[(6, .c (.s (.b r11)))], [], []⟩) (by kernel_rfl) allP_nil ?_
                  refine W_co [] [6] [] (s' := (lExps_R r11)) (by kernel_rfl) (W_ret ?_)
                  exact ⟨.inl rfl, by cases h; rfl⟩
                · replace h := bif_f h g38
                  refine W_co [] [0, 1, 2, 7] [0, 1, 2] (s' := ⟨[(0, .c (.wh 0)), (1, .c (.wh 1)), (2, .c (.wh 2)), (7, .c (.s (.b r11)))], [], [⟨(.ro false), 45, 1, l0.length, .w l0⟩, ⟨(.ro false), 45, 1, l1.length, .w l1⟩, ⟨(.ro false), 45, 1, l2.length, .w l2⟩]⟩) (by kernel_rfl) (W_skip ?_)
                  refine W_seq ?_
                  obtain ⟨r50, g11, h⟩ := bind_some' h
                  refine W_reg hT (ftL_cons (k := 3) (f := 18) (F := (pExp_ct n r50)) (pExp_ok n r50) (fun _ _ => True.intro) ftL_nil) [] [] [0, 1, 2, 7, 8, 9] [0, 1, 2, 3] (s' := ⟨[(0, .c (.wh 0)), (1, .c (.wh 1)), (2, .c (.wh 2)), (7, .c (.s (.b r11))), (8, .c (.wh 3)), (9, .c (.s (.er 30 .i64 r50.2)))], [], [⟨(.ro false), 45, 1, l0.length, .w l0⟩, ⟨(.ro false), 45, 1, l1.length, .w l1⟩, ⟨(.ro false), 45, 1, l2.length, .w l2⟩, ⟨.row, 45, 1, r50.1.length, .w r50.1⟩]⟩) (by kernel_rfl) (allP_cons.2 ⟨g11, allP_nil⟩) ?_
                  refine W_seq ?_
                  refine W_seq ?_
                  obtain ⟨r54, g12, h⟩ := bind_some' h
                  rcases Bool.eq_false_or_eq_true (!r54) with g13 | g13
                  · replace h := bif_t h g13
                    refine W_reg hT (ftL_cons (k := 1) (f := 14) (F := (rMay_ct n r54)) (rMay_ok n r54) (fun _ _ => True.intro) ftL_nil) [(3, true)] [] [0, 1, 2, 7, 8, 9, 65] [0, 1, 2, 3] (s' := ⟨[(0, .c (.wh 0)), (1, .c (.wh 1)), (2, .c (.wh 2)), (7, .c (.s (.b r11))), (8, .c (.wh 3)), (9, .c (.s (.er 30 .i64 r50.2))), (65, .c (.s (.b true)))], [], [⟨(.ro false), 45, 1, l0.length, .w l0⟩, ⟨(.ro false), 45, 1, l1.length, .w l1⟩, ⟨(.ro false), 45, 1, l2.length, .w l2⟩, ⟨.row, 45, 1, r50.1.length, .w r50.1⟩]⟩) (by kernel_rfl) (allP_cons.2 ⟨g12, (allP_cons.2 ⟨g13, allP_nil⟩)⟩) ?_
                    refine W_cond (b := true) (by kernel_rfl) (fun _ => ?_) (fun hb => by cases hb)
                    refine W_seq ?_
                    rcases Bool.eq_false_or_eq_true r11 with g14 | g14
                    · replace h := bif_t h g14
                      obtain ⟨g15, h⟩ := gd_some h
                      rcases Bool.eq_false_or_eq_true (r50.2 == (some 4)) with g16 | g16
                      · replace h := bif_t h g16
                        refine W_reg hT ftL_nil [(1, true), (6, true)] [] [6] [] (s' := ⟨[(6, .c (.s (.b (((r50.1.length : Nat) : Int) == 0))))], [], []⟩) (by kernel_rfl) (allP_cons.2 ⟨g14, (allP_cons.2 ⟨g15, (allP_cons.2 ⟨g16, allP_nil⟩)⟩)⟩) ?_
                        refine W_co [] [6] [] (s' := (lExps_R (((r50.1.length : Nat) : Int) == 0))) (by kernel_rfl) (W_ret ?_)
                        exact ⟨.inl rfl, by cases h; rfl⟩
                      · replace h := bif_f h g16
                        refine W_reg hT ftL_nil [(1, true), (6, false)] [] [6] [] (s' := ⟨[(6, .c (.s (.b false)))], [], []⟩) (by kernel_rfl) (allP_cons.2 ⟨g14, (allP_cons.2 ⟨g15, (allP_cons.2 ⟨g16, allP_nil⟩)⟩)⟩) ?_
                        refine W_co [] [6] [] (s' := (lExps_R false)) (by kernel_rfl) (W_ret ?_)
                        exact ⟨.inl rfl, by cases h; rfl⟩
                    · replace h := bif_f h g14
                      refine W_reg hT ftL_nil [(1, false)] [] [6] [] (s' := ⟨[(6, .c (.s (.b false)))], [], []⟩) (by kernel_rfl) (allP_cons.2 ⟨g14, allP_nil⟩) ?_
                      refine W_co [] [6] [] (s' := (lExps_R false)) (by kernel_rfl) (W_ret ?_)
                      exact ⟨.inl rfl, by cases h; rfl⟩
                  · replace h := bif_f h g13
                    obtain ⟨r58, g17, h⟩ := bind_some' h
                    rcases Bool.eq_false_or_eq_true (!r58) with g18 | g18
                    · replace h := bif_t h g18
                      refine W_reg hT (ftL_cons (k := 1) (f := 14) (F := (rMay_ct n r54)) (rMay_ok n r54) (fun _ _ => True.intro) (ftL_cons (k := 5) (f := 14) (F := (rMay_ct n r58)) (rMay_ok n r58) (fun _ _ => True.intro) ftL_nil)) [(3, false), (8, true)] [] [0, 1, 2, 7, 8, 9, 65] [0, 1, 2, 3] (s' := ⟨[(0, .c (.wh 0)), (1, .c (.wh 1)), (2, .c (.wh 2)), (7, .c (.s (.b r11))), (8, .c (.wh 3)), (9, .c (.s (.er 30 .i64 r50.2))), (65, .c (.s (.b true)))], [], [⟨(.ro false), 45, 1, l0.length, .w l0⟩, ⟨(.ro false), 45, 1, l1.length, .w l1⟩, ⟨(.ro false), 45, 1, l2.length, .w l2⟩, ⟨.row, 45, 1, r50.1.length, .w r50.1⟩]⟩) (by kernel_rfl) (allP_cons.2 ⟨g12, (allP_cons.2 ⟨g13, (allP_cons.2 ⟨g17, (allP_cons.2 ⟨g18, allP_nil⟩)⟩)⟩)⟩) ?_
                      refine W_cond (b := true) (by kernel_rfl) (fun _ => ?_) (fun hb => by cases hb)
                      refine W_seq ?_
                      rcases Bool.eq_false_or_eq_true r11 with g19 | g19
                      · replace h := bif_t h g19
                        obtain ⟨g20, h⟩ := gd_some h
                        rcases Bool.eq_false_or_eq_true (r50.2 == (some 4)) with g21 | g21
                        · replace h := bif_t h g21
                          refine W_reg hT ftL_nil [(1, true), (6, true)] [] [6] [] (s' := ⟨[(6, .c (.s (.b (((r50.1.length : Nat) : Int) == 0))))], [], []⟩) (by kernel_rfl) (allP_cons.2 ⟨g19, (allP_cons.2 ⟨g20, (allP_cons.2 ⟨g21, allP_nil⟩)⟩)⟩) ?_
                          refine W_co [] [6] [] (s' := (lExps_R (((r50.1.length : Nat) : Int) == 0))) (by kernel_rfl) (W_ret ?_)
                          exact ⟨.inl rfl, by cases h; rfl⟩
                        · replace h := bif_f h g21
                          refine W_reg hT ftL_nil [(1, true), (6, false)] [] [6] [] (s' := ⟨[(6, .c (.s (.b false)))], [], []⟩) (by kernel_rfl) (allP_cons.2 ⟨g19, (allP_cons.2 ⟨g20, (allP_cons.2 ⟨g21, allP_nil⟩)⟩)⟩) ?_
                          refine W_co [] [6] [] (s' := (lExps_R false)) (by kernel_rfl) (W_ret ?_)
                          exact ⟨.inl rfl, by cases h; rfl⟩
                      · replace h := bif_f h g19
                        refine W_reg hT ftL_nil [(1, false)] [] [6] [] (s' := ⟨[(6, .c (.s (.b false)))], [], []⟩) (by kernel_rfl) (allP_cons.2 ⟨g19, allP_nil⟩) ?_
                        refine W_co [] [6] [] (s' := (lExps_R false)) (by kernel_rfl) (W_ret ?_)
                        exact ⟨.inl rfl, by cases h; rfl⟩
                    · replace h := bif_f h g18
                      obtain ⟨r63, g22, h⟩ := bind_some' h
                      refine W_reg hT (ftL_cons (k := 1) (f := 14) (F := (rMay_ct n r54)) (rMay_ok n r54) (fun _ _ => True.intro) (ftL_cons (k := 5) (f := 14) (F := (rMay_ct n r58)) (rMay_ok n r58) (fun _ _ => True.intro) (ftL_cons (k := 10) (f := 14) (F := (rMay_ct n r63)) (rMay_ok n r63) (fun _ _ => True.intro) ftL_nil))) [(3, false), (8, false)] [] [0, 1, 2, 7, 8, 9, 65] [0, 1, 2, 3] (s' := ⟨[(0, .c (.wh 0)), (1, .c (.wh 1)), (2, .c (.wh 2)), (7, .c (.s (.b r11))), (8, .c (.wh 3)), (9, .c (.s (.er 30 .i64 r50.2))), (65, .c (.s (.b (!r63))))], [], [⟨(.ro false), 45, 1, l0.length, .w l0⟩, ⟨(.ro false), 45, 1, l1.length, .w l1⟩, ⟨(.ro false), 45, 1, l2.length, .w l2⟩, ⟨.row, 45, 1, r50.1.length, .w r50.1⟩]⟩) (by kernel_rfl) (allP_cons.2 ⟨g12, (allP_cons.2 ⟨g13, (allP_cons.2 ⟨g17, (allP_cons.2 ⟨g18, (allP_cons.2 ⟨g22, allP_nil⟩)⟩)⟩)⟩)⟩) ?_
                      refine W_cond (b := (!r63)) (by kernel_rfl) (fun g37 => ?_) (fun g37 => ?_)
                      · replace h := bif_t h g37
                        refine W_seq ?_
                        rcases Bool.eq_false_or_eq_true r11 with g23 | g23
                        · replace h := bif_t h g23
                          obtain ⟨g24, h⟩ := gd_some h
                          rcases Bool.eq_false_or_eq_true (r50.2 == (some 4)) with g25 | g25
                          · replace h := bif_t h g25
                            refine W_reg hT ftL_nil [(1, true), (6, true)] [] [6] [] (s' := ⟨[(6, .c (.s (.b (((r50.1.length : Nat) : Int) == 0))))], [], []⟩) (by kernel_rfl) (allP_cons.2 ⟨g23, (allP_cons.2 ⟨g24, (allP_cons.2 ⟨g25, allP_nil⟩)⟩)⟩) ?_
                            refine W_co [] [6] [] (s' := (lExps_R (((r50.1.length : Nat) : Int) == 0))) (by kernel_rfl) (W_ret ?_)
                            exact ⟨.inl rfl, by cases h; rfl⟩
                          · replace h := bif_f h g25
                            refine W_reg hT ftL_nil [(1, true), (6, false)] [] [6] [] (s' := ⟨[(6, .c (.s (.b false)))], [], []⟩) (by kernel_rfl) (allP_cons.2 ⟨g23, (allP_cons.2 ⟨g24, (allP_cons.2 ⟨g25, allP_nil⟩)⟩)⟩) ?_
                            refine W_co [] [6] [] (s' := (lExps_R false)) (by kernel_rfl) (W_ret ?_)
                            exact ⟨.inl rfl, by cases h; rfl⟩
                        · replace h := bif_f h g23
                          refine W_reg hT ftL_nil [(1, false)] [] [6] [] (s' := ⟨[(6, .c (.s (.b false)))], [], []⟩) (by kernel_rfl) (allP_cons.2 ⟨g23, allP_nil⟩) ?_
                          refine W_co [] [6] [] (s' := (lExps_R false)) (by kernel_rfl) (W_ret ?_)
                          exact ⟨.inl rfl, by cases h; rfl⟩
                      · replace h := bif_f h g37
                        refine W_co [] [0, 1, 2, 7, 8, 9] [0, 1, 2, 3] (s' := ⟨[(0, .c (.wh 0)), (1, .c (.wh 1)), (2, .c (.wh 2)), (7, .c (.s (.b r11))), (8, .c (.wh 3)), (9, .c (.s (.er 30 .i64 r50.2)))], [], [⟨(.ro false), 45, 1, l0.length, .w l0⟩, ⟨(.ro false), 45, 1, l1.length, .w l1⟩, ⟨(.ro false), 45, 1, l2.length, .w l2⟩, ⟨.row, 45, 1, r50.1.length, .w r50.1⟩]⟩) (by kernel_rfl) (W_skip ?_)
                        refine W_seq ?_
                        obtain ⟨r78, g26, h⟩ := bind_some' h
                        refine W_reg hT (ftL_cons (k := 1) (f := 15) (F := (rOf_ct n r78)) (rOf_ok n r78) (fun _ _ => True.intro) ftL_nil) [] [] [0, 1, 7, 8, 9, 10] [0, 1, 3, 4] (s' := ⟨[(0, .c (.wh 0)), (1, .c (.wh 1)), (7, .c (.s (.b r11))), (8, .c (.wh 2)), (9, .c (.s (.er 30 .i64 r50.2))), (10, .c (.wh 3))], [], [⟨(.ro false), 45, 1, l0.length, .w l0⟩, ⟨(.ro false), 45, 1, l1.length, .w l1⟩, ⟨.row, 45, 1, r50.1.length, .w r50.1⟩, ⟨(.ro true), 3, 1, r78.2, .z r78.1⟩]⟩) (by kernel_rfl) (allP_cons.2 ⟨g26, allP_nil⟩) ?_
                        refine W_seq ?_
                        refine W_seq ?_
                        refine W_reg hT ftL_nil [] [] [0, 1, 7, 8, 9, 10, 81] [0, 1, 2, 3] (s' := ⟨[(0, .c (.wh 0)), (1, .c (.wh 1)), (7, .c (.s (.b r11))), (8, .c (.wh 2)), (9, .c (.s (.er 30 .i64 r50.2))), (10, .c (.wh 3)), (81, .c (.s (.b (((r78.2 : Nat) : Int) == 0))))], [], [⟨(.ro false), 45, 1, l0.length, .w l0⟩, ⟨(.ro false), 45, 1, l1.length, .w l1⟩, ⟨.row, 45, 1, r50.1.length, .w r50.1⟩, ⟨(.ro true), 3, 1, r78.2, .z r78.1⟩]⟩) (by kernel_rfl) allP_nil ?_
                        refine W_cond (b := (((r78.2 : Nat) : Int) == 0)) (by kernel_rfl) (fun g36 => ?_) (fun g36 => ?_)
                        · replace h := bif_t h g36
                          refine W_seq ?_
                          rcases Bool.eq_false_or_eq_true r11 with g27 | g27
                          · replace h := bif_t h g27
                            obtain ⟨g28, h⟩ := gd_some h
                            rcases Bool.eq_false_or_eq_true (r50.2 == (some 1)) with g29 | g29
                            · replace h := bif_t h g29
                              refine W_reg hT ftL_nil [(1, true), (6, true)] [] [6] [] (s' := ⟨[(6, .c (.s (.b (((r50.1.length : Nat) : Int) == 0))))], [], []⟩) (by kernel_rfl) (allP_cons.2 ⟨g27, (allP_cons.2 ⟨g28, (allP_cons.2 ⟨g29, allP_nil⟩)⟩)⟩) ?_
                              refine W_co [] [6] [] (s' := (lExps_R (((r50.1.length : Nat) : Int) == 0))) (by kernel_rfl) (W_ret ?_)
                              exact ⟨.inl rfl, by cases h; rfl⟩
                            · replace h := bif_f h g29
                              refine W_reg hT ftL_nil [(1, true), (6, false)] [] [6] [] (s' := ⟨[(6, .c (.s (.b false)))], [], []⟩) (by kernel_rfl) (allP_cons.2 ⟨g27, (allP_cons.2 ⟨g28, (allP_cons.2 ⟨g29, allP_nil⟩)⟩)⟩) ?_
                              refine W_co [] [6] [] (s' := (lExps_R false)) (by kernel_rfl) (W_ret ?_)
                              exact ⟨.inl rfl, by cases h; rfl⟩
                          · replace h := bif_f h g27
                            refine W_reg hT ftL_nil [(1, false)] [] [6] [] (s' := ⟨[(6, .c (.s (.b false)))], [], []⟩) (by kernel_rfl) (allP_cons.2 ⟨g27, allP_nil⟩) ?_
                            refine W_co [] [6] [] (s' := (lExps_R false)) (by kernel_rfl) (W_ret ?_)
                            exact ⟨.inl rfl, by cases h; rfl⟩
                        · replace h := bif_f h g36
                          refine W_co [] [0, 1, 7, 8, 9, 10] [0, 1, 2, 3] (s' := ⟨[(0, .c (.wh 0)), (1, .c (.wh 1)), (7, .c (.s (.b r11))), (8, .c (.wh 2)), (9, .c (.s (.er 30 .i64 r50.2))), (10, .c (.wh 3))], [], [⟨(.ro false), 45, 1, l0.length, .w l0⟩, ⟨(.ro false), 45, 1, l1.length, .w l1⟩, ⟨.row, 45, 1, r50.1.length, .w r50.1⟩, ⟨(.ro true), 3, 1, r78.2, .z r78.1⟩]⟩) (by kernel_rfl) (W_skip ?_)
                          refine W_seq ?_
                          rcases Bool.eq_false_or_eq_true r11 with g30 | g30
                          · replace h := bif_t h g30
                            rcases Bool.eq_false_or_eq_true ((r50.2).isNone) with g31 | g31
                            · replace h := bif_t h g31
                              obtain ⟨r101, g32, h⟩ := bind_some' h
                              obtain ⟨r103, g33, h⟩ := bind_some' h
                              obtain ⟨r105, g34, h⟩ := bind_some' h
                              obtain ⟨r106, g35, h⟩ := bind_some' h
                              refine W_reg hT (ftL_cons (k := 8) (f := 15) (F := (rOf_ct n r101)) (rOf_ok n r101) (fun _ _ => True.intro) (ftL_cons (k := 10) (f := 15) (F := (rOf_ct n r103)) (rOf_ok n r103) (fun _ _ => True.intro) (ftL_cons (k := 12) (f := 19) (F := (rExp_ct n r105)) (rExp_ok n r105) (fun _ _ => True.intro) (ftL_cons (k := 13) (f := 17) (F := (rSame_ct n r106)) (rSame_ok n r106) (fun _ _ => True.intro) ftL_nil)))) [(1, true), (5, true)] [] [6] [] (s' := ⟨[(6, .c (.s (.b r106)))], [], []⟩) (by kernel_rfl) (allP_cons.2 ⟨g30, (allP_cons.2 ⟨g31, (allP_cons.2 ⟨g32, (allP_cons.2 ⟨g33, (allP_cons.2 ⟨g34, (allP_cons.2 ⟨g35, allP_nil⟩)⟩)⟩)⟩)⟩)⟩) ?_
                              refine W_co [] [6] [] (s' := (lExps_R r106)) (by kernel_rfl) (W_ret ?_)
                              exact ⟨.inl rfl, by cases h; rfl⟩
                            · replace h := bif_f h g31
                              refine W_reg hT ftL_nil [(1, true), (5, false)] [] [6] [] (s' := ⟨[(6, .c (.s (.b false)))], [], []⟩) (by kernel_rfl) (allP_cons.2 ⟨g30, (allP_cons.2 ⟨g31, allP_nil⟩)⟩) ?_
                              refine W_co [] [6] [] (s' := (lExps_R false)) (by kernel_rfl) (W_ret ?_)
                              exact ⟨.inl rfl, by cases h; rfl⟩
                          · replace h := bif_f h g30
                            refine W_reg hT ftL_nil [(1, false)] [] [6] [] (s' := ⟨[(6, .c (.s (.b false)))], [], []⟩) (by kernel_rfl) (allP_cons.2 ⟨g30, allP_nil⟩) ?_
                            refine W_co [] [6] [] (s' := (lExps_R false)) (by kernel_rfl) (W_ret ?_)
                            exact ⟨.inl rfl, by cases h; rfl⟩
            · replace h := bif_f h g8
              obtain ⟨r42, g39, h⟩ := bind_some' h
              refine W_reg hT (ftL_cons (k := 1) (f := 12) (F := (llight_ct n r13)) (llight_ok n r13) (fun _ _ => True.intro) (ftL_cons (k := 15) (f := 12) (F := (llight_ct n r27)) (llight_ok n r27) (fun _ _ => True.intro) (ftL_cons (k := 30) (f := 12) (F := (llight_ct n r42)) (llight_ok n r42) (fun _ _ => True.intro) ftL_nil))) [(3, false), (7, true), (13, false), (18, false), (22, false)] [] [0, 1, 2, 7, 44] [0, 1, 2] (s' := ⟨[(0, .c (.wh 0)), (1, .c (.wh 1)), (2, .c (.wh 2)), (7, .c (.s (.b r11))), (44, .c (.s (.b (!r42))))], [], [⟨(.ro false), 45, 1, l0.length, .w l0⟩, ⟨(.ro false), 45, 1, l1.length, .w l1⟩, ⟨(.ro false), 45, 1, l2.length, .w l2⟩]⟩) (by kernel_rfl) (allP_cons.2 ⟨g2, (allP_cons.2 ⟨g3, (allP_cons.2 ⟨g4, (allP_cons.2 ⟨g5, (allP_cons.2 ⟨g6, (allP_cons.2 ⟨g7, (allP_cons.2 ⟨g8, (allP_cons.2 ⟨g39, allP_nil⟩)⟩)⟩)⟩)⟩)⟩)⟩)⟩) ?_
              refine W_cond (b := (!r42)) (by kernel_rfl) (fun g67 => ?_) (fun g67 => ?_)
              · replace h := bif_t h g67
                refine W_seq ?_
                refine W_reg hT ftL_nil [] [] [6] [] (s' := ⟨[(6, .c (.s (.b r11)))], [], []⟩) (by kernel_rfl) allP_nil ?_
                refine W_co [] [6] [] (s' := (lExps_R r11)) (by kernel_rfl) (W_ret ?_)
                exact ⟨.inl rfl, by cases h; rfl⟩
              · replace h := bif_f h g67
                refine W_co [] [0, 1, 2, 7] [0, 1, 2] (s' := ⟨[(0, .c (.wh 0)), (1, .c (.wh 1)), (2, .c (.wh 2)), (7, .c (.s (.b r11)))], [], [⟨(.ro false), 45, 1, l0.length, .w l0⟩, ⟨(.ro false), 45, 1, l1.length, .w l1⟩, ⟨(.ro false), 45, 1, l2.length, .w l2⟩]⟩) (by kernel_rfl) (W_skip ?_)
                refine W_seq ?_
                obtain ⟨r50, g40, h⟩ := bind_some' h
                refine W_reg hT (ftL_cons (k := 3) (f := 18) (F := (pExp_ct n r50)) (pExp_ok n r50) (fun _ _ => True.intro) ftL_nil) [] [] [0, 1, 2, 7, 8, 9] [0, 1, 2, 3] (s' := ⟨[(0, .c (.wh 0)), (1, .c (.wh 1)), (2, .c (.wh 2)), (7, .c (.s (.b r11))), (8, .c (.wh 3)), (9, .c (.s (.er 30 .i64 r50.2)))], [], [⟨(.ro false), 45, 1, l0.length, .w l0⟩, ⟨(.ro false), 45, 1, l1.length, .w l1⟩, ⟨(.ro false), 45, 1, l2.length, .w l2⟩, ⟨.row, 45, 1, r50.1.length, .w r50.1⟩]⟩) (by kernel_rfl) (allP_cons.2 ⟨g40, allP_nil⟩) ?_
                refine W_seq ?_
                refine W_seq ?_
                obtain ⟨r54, g41, h⟩ := bind_some' h
                rcases Bool.eq_false_or_eq_true (!r54) with g42 | g42
                · replace h := bif_t h g42
                  refine W_reg hT (ftL_cons (k := 1) (f := 14) (F := (rMay_ct n r54)) (rMay_ok n r54) (fun _ _ => True.intro) ftL_nil) [(3, true)] [] [0, 1, 2, 7, 8, 9, 65] [0, 1, 2, 3] (s' := ⟨[(0, .c (.wh 0)), (1, .c (.wh 1)), (2, .c (.wh 2)), (7, .c (.s (.b r11))), (8, .c (.wh 3)), (9, .c (.s (.er 30 .i64 r50.2))), (65, .c (.s (.b true)))], [], [⟨(.ro false), 45, 1, l0.length, .w l0⟩, ⟨(.ro false), 45, 1, l1.length, .w l1⟩, ⟨(.ro false), 45, 1, l2.length, .w l2⟩, ⟨.row, 45, 1, r50.1.length, .w r50.1⟩]⟩) (by kernel_rfl) (allP_cons.2 ⟨g41, (allP_cons.2 ⟨g42, allP_nil⟩)⟩) ?_
                  refine W_cond (b := true) (by kernel_rfl) (fun _ => ?_) (fun hb => by cases hb)
                  refine W_seq ?_
                  rcases Bool.eq_false_or_eq_true r11 with g43 | g43
                  · replace h := bif_t h g43
                    obtain ⟨g44, h⟩ := gd_some h
                    rcases Bool.eq_false_or_eq_true (r50.2 == (some 4)) with g45 | g45
                    · replace h := bif_t h g45
                      refine W_reg hT ftL_nil [(1, true), (6, true)] [] [6] [] (s' := ⟨[(6, .c (.s (.b (((r50.1.length : Nat) : Int) == 0))))], [], []⟩) (by kernel_rfl) (allP_cons.2 ⟨g43, (allP_cons.2 ⟨g44, (allP_cons.2 ⟨g45, allP_nil⟩)⟩)⟩) ?_
                      refine W_co [] [6] [] (s' := (lExps_R (((r50.1.length : Nat) : Int) == 0))) (by kernel_rfl) (W_ret ?_)
                      exact ⟨.inl rfl, by cases h; rfl⟩
                    · replace h := bif_f h g45
                      refine W_reg hT ftL_nil [(1, true), (6, false)] [] [6] [] (s' := ⟨[(6, .c (.s (.b false)))], [], []⟩) (by kernel_rfl) (allP_cons.2 ⟨g43, (allP_cons.2 ⟨g44, (allP_cons.2 ⟨g45, allP_nil⟩)⟩)⟩) ?_
                      refine W_co [] [6] [] (s' := (lExps_R false)) (by kernel_rfl) (W_ret ?_)
                      exact ⟨.inl rfl, by cases h; rfl⟩
                  · replace h := bif_f h g43
                    refine W_reg hT ftL_nil [(1, false)] [] [6] [] (s' := ⟨[(6, .c (.s (.b false)))], [], []⟩) (by kernel_rfl) (allP_cons.2 ⟨g43, allP_nil⟩) ?_
                    refine W_co [] [6] [] (s' := (lExps_R false)) (by kernel_rfl) (W_ret ?_)
                    exact ⟨.inl rfl, by cases h; rfl⟩
                · replace h := bif_f h g42
                  obtain ⟨r58, g46, h⟩ := bind_some' h
                  rcases Bool.eq_false_or_eq_true (!r58) with g47 | g47
                  · replace h := bif_t h g47
                    refine W_reg hT (ftL_cons (k := 1) (f := 14) (F := (rMay_ct n r54)) (rMay_ok n r54) (fun _ _ => True.intro) (ftL_cons (k := 5) (f := 14) (F := (rMay_ct n r58)) (rMay_ok n r58) (fun _ _ => True.intro) ftL_nil)) [(3, false), (8, true)] [] [0, 1, 2, 7, 8, 9, 65] [0, 1, 2, 3] (s' := ⟨[(0, .c (.wh 0)), (1, .c (.wh 1)), (2, .c (.wh 2)), (7, .c (.s (.b r11))), (8, .c (.wh 3)), (9, .c (.s (.er 30 .i64 r50.2))), (65, .c (.s (.b true)))], [], [⟨(.ro false), 45, 1, l0.length, .w l0⟩, ⟨(.ro false), 45, 1, l1.length, .w l1⟩, ⟨(.ro false), 45, 1, l2.length, .w l2⟩, ⟨.row, 45, 1, r50.1.length, .w r50.1⟩]⟩) (by kernel_rfl) (allP_cons.2 ⟨g41, (allP_cons.2 ⟨g42, (allP_cons.2 ⟨g46, (allP_cons.2 ⟨g47, allP_nil⟩)⟩)⟩)⟩) ?_
                    refine W_cond (b := true) (by kernel_rfl) (fun _ => ?_) (fun hb => by cases hb)
                    refine W_seq ?_
                    rcases Bool.eq_false_or_eq_true r11 with g48 | g48
                    · replace h := bif_t h g48
                      obtain ⟨g49, h⟩ := gd_some h
                      rcases Bool.eq_false_or_eq_true (r50.2 == (some 4)) with g50 | g50
                      · replace h := bif_t h g50
                        refine W_reg hT ftL_nil [(1, true), (6, true)] [] [6] [] (s' := ⟨[(6, .c (.s (.b (((r50.1.length : Nat) : Int) == 0))))], [], []⟩) (by kernel_rfl) (allP_cons.2 ⟨g48, (allP_cons.2 ⟨g49, (allP_cons.2 ⟨g50, allP_nil⟩)⟩)⟩) ?_
                        refine W_co [] [6] [] (s' := (lExps_R (((r50.1.length : Nat) : Int) == 0))) (by kernel_rfl) (W_ret ?_)
                        exact ⟨.inl rfl, by cases h; rfl⟩
                      · replace h := bif_f h g50
                        refine W_reg hT ftL_nil [(1, true), (6, false)] [] [6] [] (s' := ⟨[(6, .c (.s (.b false)))], [], []⟩) (by kernel_rfl) (allP_cons.2 ⟨g48, (allP_cons.2 ⟨g49, (allP_cons.2 ⟨g50, allP_nil⟩)⟩)⟩) ?_
                        refine W_co [] [6] [] (s' := (lExps_R false)) (by kernel_rfl) (W_ret ?_)
                        exact ⟨.inl rfl, by cases h; rfl⟩
                    · replace h := bif_f h g48
                      refine W_reg hT ftL_nil [(1, false)] [] [6] [] (s' := ⟨[(6, .c (.s (.b false)))], [], []⟩) (by kernel_rfl) (allP_cons.2 ⟨g48, allP_nil⟩) ?_
                      refine W_co [] [6] [] (s' := (lExps_R false)) (by kernel_rfl) (W_ret ?_)
                      exact ⟨.inl rfl, by cases h; rfl⟩
                  · replace h := bif_f h g47
                    obtain ⟨r63, g51, h⟩ := bind_some' h
                    refine W_reg hT (ftL_cons (k := 1) (f := 14) (F := (rMay_ct n r54)) (rMay_ok n r54) (fun _ _ => True.intro) (ftL_cons (k := 5) (f := 14) (F := (rMay_ct n r58)) (rMay_ok n r58) (fun _ _ => True.intro) (ftL_cons (k := 10) (f := 14) (F := (rMay_ct n r63)) (rMay_ok n r63) (fun _ _ => True.intro) ftL_nil))) [(3, false), (8, false)] [] [0, 1, 2, 7, 8, 9, 65] [0, 1, 2, 3] (s' := ⟨[(0, .c (.wh 0)), (1, .c (.wh 1)), (2, .c (.wh 2)), (7, .c (.s (.b r11))), (8, .c (.wh 3)), (9, .c (.s (.er 30 .i64 r50.2))), (65, .c (.s (.b (!r63))))], [], [⟨(.ro false), 45, 1, l0.length, .w l0⟩, ⟨(.ro false), 45, 1, l1.length, .w l1⟩, ⟨(.ro false), 45, 1, l2.length, .w l2⟩, ⟨.row, 45, 1, r50.1.length, .w r50.1⟩]⟩) (by kernel_rfl) (allP_cons.2 ⟨g41, (allP_cons.2 ⟨g42, (allP_cons.2 ⟨g46, (allP_cons.2 ⟨g47, (allP_cons.2 ⟨g51, allP_nil⟩)⟩)⟩)⟩)⟩) ?_
                    refine W_cond (b := (!r63)) (by kernel_rfl) (fun g66 => ?_) (fun g66 => ?_)
                    · replace h := bif_t h g66
                      refine W_seq ?_
                      rcases Bool.eq_false_or_eq_true r11 with g52 | g52
                      · replace h := bif_t h g52
                        obtain ⟨g53, h⟩ := gd_some h
                        rcases Bool.eq_false_or_eq_true (r50.2 == (some 4)) with g54 | g54
                        · replace h := bif_t h g54
                          refine W_reg hT ftL_nil [(1, true), (6, true)] [] [6] [] (s' := ⟨[(6, .c (.s (.b (((r50.1.length : Nat) : Int) == 0))))], [], []⟩) (by kernel_rfl) (allP_cons.2 ⟨g52, (allP_cons.2 ⟨g53, (allP_cons.2 ⟨g54, allP_nil⟩)⟩)⟩) ?_
                          refine W_co [] [6] [] (s' := (lExps_R (((r50.1.length : Nat) : Int) == 0))) (by kernel_rfl) (W_ret ?_)
                          exact ⟨.inl rfl, by cases h; rfl⟩
                        · replace h := bif_f h g54
                          refine W_reg hT ftL_nil [(1, true), (6, false)] [] [6] [] (s' := ⟨[(6, .c (.s (.b false)))], [], []⟩) (by kernel_rfl) (allP_cons.2 ⟨g52, (allP_cons.2 ⟨g53, (allP_cons.2 ⟨g54, allP_nil⟩)⟩)⟩) ?_
                          refine W_co [] [6] [] (s' := (lExps_R false)) (by kernel_rfl) (W_ret ?_)
                          exact ⟨.inl rfl, by cases h; rfl⟩
                      · replace h := bif_f h g52
                        refine W_reg hT ftL_nil [(1, false)] [] [6] [] (s' := ⟨[(6, .c (.s (.b false)))], [], []⟩) (by kernel_rfl) (allP_cons.2 ⟨g52, allP_nil⟩) ?_
                        refine W_co [] [6] [] (s' := (lExps_R false)) (by kernel_rfl) (W_ret ?_)
                        exact ⟨.inl rfl, by cases h; rfl⟩
                    · replace h := bif_f h g66
                      refine W_co [] [0, 1, 2, 7, 8, 9] [0, 1, 2, 3] (s' := ⟨[(0, .c (.wh 0)), (1, .c (.wh 1)), (2, .c (.wh 2)), (7, .c (.s (.b r11))), (8, .c (.wh 3)), (9, .c (.s (.er 30 .i64 r50.2)))], [], [⟨(.ro false), 45, 1, l0.length, .w l0⟩, ⟨(.ro false), 45, 1, l1.length, .w l1⟩, ⟨(.ro false), 45, 1, l2.length, .w l2⟩, ⟨.row, 45, 1, r50.1.length, .w r50.1⟩]⟩) (by kernel_rfl) (W_skip ?_)
                      refine W_seq ?_
                      obtain ⟨r78, g55, h⟩ := bind_some' h
                      refine W_reg hT (ftL_cons (k := 1) (f := 15) (F := (rOf_ct n r78)) (rOf_ok n r78) (fun _ _ => True.intro) ftL_nil) [] [] [0, 1, 7, 8, 9, 10] [0, 1, 3, 4] (s' := ⟨[(0, .c (.wh 0)), (1, .c (.wh 1)), (7, .c (.s (.b r11))), (8, .c (.wh 2)), (9, .c (.s (.er 30 .i64 r50.2))), (10, .c (.wh 3))], [], [⟨(.ro false), 45, 1, l0.length, .w l0⟩, ⟨(.ro false), 45, 1, l1.length, .w l1⟩, ⟨.row, 45, 1, r50.1.length, .w r50.1⟩, ⟨(.ro true), 3, 1, r78.2, .z r78.1⟩]⟩) (by kernel_rfl) (allP_cons.2 ⟨g55, allP_nil⟩) ?_
                      refine W_seq ?_
                      refine W_seq ?_
                      refine W_reg hT ftL_nil [] [] [0, 1, 7, 8, 9, 10, 81] [0, 1, 2, 3] (s' := ⟨[(0, .c (.wh 0)), (1, .c (.wh 1)), (7, .c (.s (.b r11))), (8, .c (.wh 2)), (9, .c (.s (.er 30 .i64 r50.2))), (10, .c (.wh 3)), (81, .c (.s (.b (((r78.2 : Nat) : Int) == 0))))], [], [⟨(.ro false), 45, 1, l0.length, .w l0⟩, ⟨(.ro false), 45, 1, l1.length, .w l1⟩, ⟨.row, 45, 1, r50.1.length, .w r50.1⟩, ⟨(.ro true), 3, 1, r78.2, .z r78.1⟩]⟩) (by kernel_rfl) allP_nil ?_
                      refine W_cond (b := (((r78.2 : Nat) : Int) == 0)) (by kernel_rfl) (fun g65 => ?_) (fun g65 => ?_)
                      · replace h := bif_t h g65
                        refine W_seq ?_
                        rcases Bool.eq_false_or_eq_true r11 with g56 | g56
                        · replace h := bif_t h g56
                          obtain ⟨g57, h⟩ := gd_some h
                          rcases Bool.eq_false_or_eq_true (r50.2 == (some 1)) with g58 | g58
                          · replace h := bif_t h g58
                            refine W_reg hT ftL_nil [(1, true), (6, true)] [] [6] [] (s' := ⟨[(6, .c (.s (.b (((r50.1.length : Nat) : Int) == 0))))], [], []⟩) (by kernel_rfl) (allP_cons.2 ⟨g56, (allP_cons.2 ⟨g57, (allP_cons.2 ⟨g58, allP_nil⟩)⟩)⟩) ?_
                            refine W_co [] [6] [] (s' := (lExps_R (((r50.1.length : Nat) : Int) == 0))) (by kernel_rfl) (W_ret ?_)
                            exact ⟨.inl rfl, by cases h; rfl⟩
                          · replace h := bif_f h g58
                            refine W_reg hT ftL_nil [(1, true), (6, false)] [] [6] [] (s' := ⟨[(6, .c (.s (.b false)))], [], []⟩) (by kernel_rfl) (allP_cons.2 ⟨g56, (allP_cons.2 ⟨g57, (allP_cons.2 ⟨g58, allP_nil⟩)⟩)⟩) ?_
                            refine W_co [] [6] [] (s' := (lExps_R false)) (by kernel_rfl) (W_ret ?_)
                            exact ⟨.inl rfl, by cases h; rfl⟩
                        · replace h := bif_f h g56
                          refine W_reg hT ftL_nil [(1, false)] [] [6] [] (s' := ⟨[(6, .c (.s (.b false)))], [], []⟩) (by kernel_rfl) (allP_cons.2 ⟨g56, allP_nil⟩) ?_
                          refine W_co [] [6] [] (s' := (lExps_R false)) (by kernel_rfl) (W_ret ?_)
                          exact ⟨.inl rfl, by cases h; rfl⟩
                      · replace h := bif_f h g65
                        refine W_co [] [0, 1, 7, 8, 9, 10] [0, 1, 2, 3] (s' := ⟨[(0, .c (.wh 0)), (1, .c (.wh 1)), (7, .c (.s (.b r11))), (8, .c (.wh 2)), (9, .c (.s (.er 30 .i64 r50.2))), (10, .c (.wh 3))], [], [⟨(.ro false), 45, 1, l0.length, .w l0⟩, ⟨(.ro false), 45, 1, l1.length, .w l1⟩, ⟨.row, 45, 1, r50.1.length, .w r50.1⟩, ⟨(.ro true), 3, 1, r78.2, .z r78.1⟩]⟩) (by kernel_rfl) (W_skip ?_)
                        refine W_seq ?_
                        rcases Bool.eq_false_or_eq_true r11 with g59 | g59
                        · replace h := bif_t h g59
                          rcases Bool.eq_false_or_eq_true ((r50.2).isNone) with g60 | g60
                          · replace h := bif_t h g60
                            obtain ⟨r101, g61, h⟩ := bind_some' h
                            obtain ⟨r103, g62, h⟩ := bind_some' h
                            obtain ⟨r105, g63, h⟩ := bind_some' h
                            obtain ⟨r106, g64, h⟩ := bind_some' h
                            refine W_reg hT (ftL_cons (k := 8) (f := 15) (F := (rOf_ct n r101)) (rOf_ok n r101) (fun _ _ => True.intro) (ftL_cons (k := 10) (f := 15) (F := (rOf_ct n r103)) (rOf_ok n r103) (fun _ _ => True.intro) (ftL_cons (k := 12) (f := 19) (F := (rExp_ct n r105)) (rExp_ok n r105) (fun _ _ => True.intro) (ftL_cons (k := 13) (f := 17) (F := (rSame_ct n r106)) (rSame_ok n r106) (fun _ _ => True.intro) ftL_nil)))) [(1, true), (5, true)] [] [6] [] (s' := ⟨[(6, .c (.s (.b r106)))], [], []⟩) (by kernel_rfl) (allP_cons.2 ⟨g59, (allP_cons.2 ⟨g60, (allP_cons.2 ⟨g61, (allP_cons.2 ⟨g62, (allP_cons.2 ⟨g63, (allP_cons.2 ⟨g64, allP_nil⟩)⟩)⟩)⟩)⟩)⟩) ?_
                            refine W_co [] [6] [] (s' := (lExps_R r106)) (by kernel_rfl) (W_ret ?_)
                            exact ⟨.inl rfl, by cases h; rfl⟩
                          · replace h := bif_f h g60
                            refine W_reg hT ftL_nil [(1, true), (5, false)] [] [6] [] (s' := ⟨[(6, .c (.s (.b false)))], [], []⟩) (by kernel_rfl) (allP_cons.2 ⟨g59, (allP_cons.2 ⟨g60, allP_nil⟩)⟩) ?_
                            refine W_co [] [6] [] (s' := (lExps_R false)) (by kernel_rfl) (W_ret ?_)
                            exact ⟨.inl rfl, by cases h; rfl⟩
                        · replace h := bif_f h g59
                          refine W_reg hT ftL_nil [(1, false)] [] [6] [] (s' := ⟨[(6, .c (.s (.b false)))], [], []⟩) (by kernel_rfl) (allP_cons.2 ⟨g59, allP_nil⟩) ?_
                          refine W_co [] [6] [] (s' := (lExps_R false)) (by kernel_rfl) (W_ret ?_)
                          exact ⟨.inl rfl, by cases h; rfl⟩
      · replace h := bif_f h g4
        obtain ⟨r27, g68, h⟩ := bind_some' h
        rcases Bool.eq_false_or_eq_true (!r27) with g69 | g69
        · replace h := bif_t h g69
          refine W_reg hT (ftL_cons (k := 1) (f := 12) (F := (llight_ct n r13)) (llight_ok n r13) (fun _ _ => True.intro) (ftL_cons (k := 15) (f := 12) (F := (llight_ct n r27)) (llight_ok n r27) (fun _ _ => True.intro) ftL_nil)) [(3, false), (7, false), (18, true)] [] [0, 1, 2, 7, 44] [0, 1, 2] (s' := ⟨[(0, .c (.wh 0)), (1, .c (.wh 1)), (2, .c (.wh 2)), (7, .c (.s (.b r11))), (44, .c (.s (.b true)))], [], [⟨(.ro false), 45, 1, l0.length, .w l0⟩, ⟨(.ro false), 45, 1, l1.length, .w l1⟩, ⟨(.ro false), 45, 1, l2.length, .w l2⟩]⟩) (by kernel_rfl) (allP_cons.2 ⟨g2, (allP_cons.2 ⟨g3, (allP_cons.2 ⟨g4, (allP_cons.2 ⟨g68, (allP_cons.2 ⟨g69, allP_nil⟩)⟩)⟩)⟩)⟩) ?_
          refine W_cond (b := true) (by kernel_rfl) (fun _ => ?_) (fun hb => by cases hb)
          refine W_seq ?_
          refine W_reg hT ftL_nil [] [] [6] [] (s' := ⟨[(6, .c (.s (.b r11)))], [], []⟩) (by kernel_rfl) allP_nil ?_
          refine W_co [] [6] [] (s' := (lExps_R r11)) (by kernel_rfl) (W_ret ?_)
          exact ⟨.inl rfl, by cases h; rfl⟩
        · replace h := bif_f h g69
          rcases Bool.eq_false_or_eq_true (decide ((8 : Int) < ((l2.length : Nat) : Int))) with g70 | g70
          · replace h := bif_t h g70
            rcases Bool.eq_false_or_eq_true (decide (((l2.length : Nat) : Int) ≤ (64 : Int))) with g71 | g71
            · replace h := bif_t h g71
              refine W_reg hT (ftL_cons (k := 1) (f := 12) (F := (llight_ct n r13)) (llight_ok n r13) (fun _ _ => True.intro) (ftL_cons (k := 15) (f := 12) (F := (llight_ct n r27)) (llight_ok n r27) (fun _ _ => True.intro) ftL_nil)) [(3, false), (7, false), (18, false), (22, true), (28, true)] [] [0, 1, 2, 7, 44] [0, 1, 2] (s' := ⟨[(0, .c (.wh 0)), (1, .c (.wh 1)), (2, .c (.wh 2)), (7, .c (.s (.b r11))), (44, .c (.s (.b true)))], [], [⟨(.ro false), 45, 1, l0.length, .w l0⟩, ⟨(.ro false), 45, 1, l1.length, .w l1⟩, ⟨(.ro false), 45, 1, l2.length, .w l2⟩]⟩) (by kernel_rfl) (allP_cons.2 ⟨g2, (allP_cons.2 ⟨g3, (allP_cons.2 ⟨g4, (allP_cons.2 ⟨g68, (allP_cons.2 ⟨g69, (allP_cons.2 ⟨g70, (allP_cons.2 ⟨g71, allP_nil⟩)⟩)⟩)⟩)⟩)⟩)⟩) ?_
              refine W_cond (b := true) (by kernel_rfl) (fun _ => ?_) (fun hb => by cases hb)
              refine W_seq ?_
              refine W_reg hT ftL_nil [] [] [6] [] (s' := ⟨[(6, .c (.s (.b r11)))], [], []⟩) (by kernel_rfl) allP_nil ?_
              refine W_co [] [6] [] (s' := (lExps_R r11)) (by kernel_rfl) (W_ret ?_)
              exact ⟨.inl rfl, by cases h; rfl⟩
            · replace h := bif_f h g71
              obtain ⟨r42, g72, h⟩ := bind_some' h
              refine W_reg hT (ftL_cons (k := 1) (f := 12) (F := (llight_ct n r13)) (llight_ok n r13) (fun _ _ => True.intro) (ftL_cons (k := 15) (f := 12) (F := (llight_ct n r27)) (llight_ok n r27) (fun _ _ => True.intro) (ftL_cons (k := 30) (f := 12) (F := (llight_ct n r42)) (llight_ok n r42) (fun _ _ => True.intro) ftL_nil))) [(3, false), (7, false), (18, false), (22, true), (28, false)] [] [0, 1, 2, 7, 44] [0, 1, 2] (s' := ⟨[(0, .c (.wh 0)), (1, .c (.wh 1)), (2, .c (.wh 2)), (7, .c (.s (.b r11))), (44, .c (.s (.b (!r42))))], [], [⟨(.ro false), 45, 1, l0.length, .w l0⟩, ⟨(.ro false), 45, 1, l1.length, .w l1⟩, ⟨(.ro false), 45, 1, l2.length, .w l2⟩]⟩) (by kernel_rfl) (allP_cons.2 ⟨g2, (allP_cons.2 ⟨g3, (allP_cons.2 ⟨g4, (allP_cons.2 ⟨g68, (allP_cons.2 ⟨g69, (allP_cons.2 ⟨g70, (allP_cons.2 ⟨g71, (allP_cons.2 ⟨g72, allP_nil⟩)⟩)⟩)⟩)⟩)⟩)⟩)⟩) ?_
              refine W_cond (b := (!r42)) (by kernel_rfl) (fun g100 => ?_) (fun g100 => ?_)
              · replace h := bif_t h g100
                refine W_seq ?_
                refine W_reg hT ftL_nil [] [] [6] [] (s' := ⟨[(6, .c (.s (.b r11)))], [], []⟩) (by kernel_rfl) allP_nil ?_
                refine W_co [] [6] [] (s' := (lExps_R r11)) (by kernel_rfl) (W_ret ?_)
                exact ⟨.inl rfl, by cases h; rfl⟩
              · replace h := bif_f h g100
                refine W_co [] [0, 1, 2, 7] [0, 1, 2] (s' := ⟨[(0, .c (.wh 0)), (1, .c (.wh 1)), (2, .c (.wh 2)), (7, .c (.s (.b r11)))], [], [⟨(.ro false), 45, 1, l0.length, .w l0⟩, ⟨(.ro false), 45, 1, l1.length, .w l1⟩, ⟨(.ro false), 45, 1, l2.length, .w l2⟩]⟩) (by kernel_rfl) (W_skip ?_)
                refine W_seq ?_
                obtain ⟨r50, g73, h⟩ := bind_some' h
                refine W_reg hT (ftL_cons (k := 3) (f := 18) (F := (pExp_ct n r50)) (pExp_ok n r50) (fun _ _ => True.intro) ftL_nil) [] [] [0, 1, 2, 7, 8, 9] [0, 1, 2, 3] (s' := ⟨[(0, .c (.wh 0)), (1, .c (.wh 1)), (2, .c (.wh 2)), (7, .c (.s (.b r11))), (8, .c (.wh 3)), (9, .c (.s (.er 30 .i64 r50.2)))], [], [⟨(.ro false), 45, 1, l0.length, .w l0⟩, ⟨(.ro false), 45, 1, l1.length, .w l1⟩, ⟨(.ro false), 45, 1, l2.length, .w l2⟩, ⟨.row, 45, 1, r50.1.length, .w r50.1⟩]⟩) (by kernel_rfl) (allP_cons.2 ⟨g73, allP_nil⟩) ?_
                refine W_seq ?_
                refine W_seq ?_
                obtain ⟨r54, g74, h⟩ := bind_some' h
                rcases Bool.eq_false_or_eq_true (!r54) with g75 | g75
                · replace h := bif_t h g75
                  refine W_reg hT (ftL_cons (k := 1) (f := 14) (F := (rMay_ct n r54)) (rMay_ok n r54) (fun _ _ => True.intro) ftL_nil) [(3, true)] [] [0, 1, 2, 7, 8, 9, 65] [0, 1, 2, 3] (s' := ⟨[(0, .c (.wh 0)), (1, .c (.wh 1)), (2, .c (.wh 2)), (7, .c (.s (.b r11))), (8, .c (.wh 3)), (9, .c (.s (.er 30 .i64 r50.2))), (65, .c (.s (.b true)))], [], [⟨(.ro false), 45, 1, l0.length, .w l0⟩, ⟨(.ro false), 45, 1, l1.length, .w l1⟩, ⟨(.ro false), 45, 1, l2.length, .w l2⟩, ⟨.row, 45, 1, r50.1.length, .w r50.1⟩]⟩) (by kernel_rfl) (allP_cons.2 ⟨g74, (allP_cons.2 ⟨g75, allP_nil⟩)⟩) ?_
                  refine W_cond (b := true) (by kernel_rfl) (fun _ => ?_) (fun hb => by cases hb)
                  refine W_seq ?_
                  rcases Bool.eq_false_or_eq_true r11 with g76 | g76
                  · replace h := bif_t h g76
                    obtain ⟨g77, h⟩ := gd_some h
                    rcases Bool.eq_false_or_eq_true (r50.2 == (some 4)) with g78 | g78
                    · replace h := bif_t h g78
                      refine W_reg hT ftL_nil [(1, true), (6, true)] [] [6] [] (s' := ⟨[(6, .c (.s (.b (((r50.1.length : Nat) : Int) == 0))))], [], []⟩) (by kernel_rfl) (allP_cons.2 ⟨g76, (allP_cons.2 ⟨g77, (allP_cons.2 ⟨g78, allP_nil⟩)⟩)⟩) ?_
                      refine W_co [] [6] [] (s' := (lExps_R (((r50.1.length : Nat) : Int) == 0))) (by kernel_rfl) (W_ret ?_)
                      exact ⟨.inl rfl, by cases h; rfl⟩
                    · replace h := bif_f h g78
                      refine W_reg hT ftL_nil [(1, true), (6, false)] [] [6] [] (s' := ⟨[(6, .c (.s (.b false)))], [], []⟩) (by kernel_rfl) (allP_cons.2 ⟨g76, (allP_cons.2 ⟨g77, (allP_cons.2 ⟨g78, allP_nil⟩)⟩)⟩) ?_
                      refine W_co [] [6] [] (s' := (lExps_R false)) (by kernel_rfl) (W_ret ?_)
                      exact ⟨.inl rfl, by cases h; rfl⟩
                  · replace h := bif_f h g76
                    refine W_reg hT ftL_nil [(1, false)] [] [6] [] (s' := ⟨[(6, .c (.s (.b false)))], [], []⟩) (by kernel_rfl) (allP_cons.2 ⟨g76, allP_nil⟩) ?_
                    refine W_co [] [6] [] (s' := (lExps_R false)) (by kernel_rfl) (W_ret ?_)
                    exact ⟨.inl rfl, by cases h; rfl⟩
                · replace h := bif_f h g75
                  obtain ⟨r58, g79, h⟩ := bind_some' h
                  rcases Bool.eq_false_or_eq_true (!r58) with g80 | g80
                  · replace h := bif_t h g80
                    refine W_reg hT (ftL_cons (k := 1) (f := 14) (F := (rMay_ct n r54)) (rMay_ok n r54) (fun _ _ => True.intro) (ftL_cons (k := 5) (f := 14) (F := (rMay_ct n r58)) (rMay_ok n r58) (fun _ _ => True.intro) ftL_nil)) [(3, false), (8, true)] [] [0, 1, 2, 7, 8, 9, 65] [0, 1, 2, 3] (s' := ⟨[(0, .c (.wh 0)), (1, .c (.wh 1)), (2, .c (.wh 2)), (7, .c (.s (.b r11))), (8, .c (.wh 3)), (9, .c (.s (.er 30 .i64 r50.2))), (65, .c (.s (.b true)))], [], [⟨(.ro false), 45, 1, l0.length, .w l0⟩, ⟨(.ro false), 45, 1, l1.length, .w l1⟩, ⟨(.ro false), 45, 1, l2.length, .w l2⟩, ⟨.row, 45, 1, r50.1.length, .w r50.1⟩]⟩) (by kernel_rfl) (allP_cons.2 ⟨g74, (allP_cons.2 ⟨g75, (allP_cons.2 ⟨g79, (allP_cons.2 ⟨g80, allP_nil⟩)⟩)⟩)⟩) ?_
                    refine W_cond (b := true) (by kernel_rfl) (fun _ => ?_) (fun hb => by cases hb)
                    refine W_seq ?_
                    rcases Bool.eq_false_or_eq_true r11 with g81 | g81
                    · replace h := bif_t h g81
                      obtain ⟨g82, h⟩ := gd_some h
                      rcases Bool.eq_false_or_eq_true (r50.2 == (some 4)) with g83 | g83
                      · replace h := bif_t h g83
                        refine W_reg hT ftL_nil [(1, true), (6, true)] [] [6] [] (s' := ⟨[(6, .c (.s (.b (((r50.1.length : Nat) : Int) == 0))))], [], []⟩) (by kernel_rfl) (allP_cons.2 ⟨g81, (allP_cons.2 ⟨g82, (allP_cons.2 ⟨g83, allP_nil⟩)⟩)⟩) ?_
                        refine W_co [] [6] [] (s' := (lExps_R (((r50.1.length : Nat) : Int) == 0))) (by kernel_rfl) (W_ret ?_)
                        exact ⟨.inl rfl, by cases h; rfl⟩
                      · replace h := bif_f h g83
                        refine W_reg hT ftL_nil [(1, true), (6, false)] [] [6] [] (s' := ⟨[(6, .c (.s (.b false)))], [], []⟩) (by kernel_rfl) (allP_cons.2 ⟨g81, (allP_cons.2 ⟨g82, (allP_cons.2 ⟨g83, allP_nil⟩)⟩)⟩) ?_
                        refine W_co [] [6] [] (s' := (lExps_R false)) (by kernel_rfl) (W_ret ?_)
                        exact ⟨.inl rfl, by cases h; rfl⟩
                    · replace h := bif_f h g81
                      refine W_reg hT ftL_nil [(1, false)] [] [6] [] (s' := ⟨[(6, .c (.s (.b false)))], [], []⟩) (by kernel_rfl) (allP_cons.2 ⟨g81, allP_nil⟩) ?_
                      refine W_co [] [6] [] (s' := (lExps_R false)) (by kernel_rfl) (W_ret ?_)
                      exact ⟨.inl rfl, by cases h; rfl⟩
                  · replace h := bif_f h g80
                    obtain ⟨r63, g84, h⟩ := bind_some' h
                    refine W_reg hT (ftL_cons (k := 1) (f := 14) (F := (rMay_ct n r54)) (rMay_ok n r54) (fun _ _ => True.intro) (ftL_cons (k := 5) (f := 14) (F := (rMay_ct n r58)) (rMay_ok n r58) (fun _ _ => True.intro) (ftL_cons (k := 10) (f := 14) (F := (rMay_ct n r63)) (rMay_ok n r63) (fun _ _ => True.intro) ftL_nil))) [(3, false), (8, false)] [] [0, 1, 2, 7, 8, 9, 65] [0, 1, 2, 3] (s' := ⟨[(0, .c (.wh 0)), (1, .c (.wh 1)), (2, .c (.wh 2)), (7, .c (.s (.b r11))), (8, .c (.wh 3)), (9, .c (.s (.er 30 .i64 r50.2))), (65, .c (.s (.b (!r63))))], [], [⟨(.ro false), 45, 1, l0.length, .w l0⟩, ⟨(.ro false), 45, 1, l1.length, .w l1⟩, ⟨(.ro false), 45, 1, l2.length, .w l2⟩, ⟨.row, 45, 1, r50.1.length, .w r50.1⟩]⟩) (by kernel_rfl) (allP_cons.2 ⟨g74, (allP_cons.2 ⟨g75, (allP_cons.2 ⟨g79, (allP_cons.2 ⟨g80, (allP_cons.2 ⟨g84, allP_nil⟩)⟩)⟩)⟩)⟩) ?_
                    refine W_cond (b := (!r63)) (by kernel_rfl) (fun g99 => ?_) (fun g99 => ?_)
                    · replace h := bif_t h g99
                      refine W_seq ?_
                      rcases Bool.eq_false_or_eq_true r11 with g85 | g85
                      · replace h := bif_t h g85
                        obtain ⟨g86, h⟩ := gd_some h
                        rcases Bool.eq_false_or_eq_true (r50.2 == (some 4)) with g87 | g87
                        · replace h := bif_t h g87
                          refine W_reg hT ftL_nil [(1, true), (6, true)] [] [6] [] (s' := ⟨[(6, .c (.s (.b (((r50.1.length : Nat) : Int) == 0))))], [], []⟩) (by kernel_rfl) (allP_cons.2 ⟨g85, (allP_cons.2 ⟨g86, (allP_cons.2 ⟨g87, allP_nil⟩)⟩)⟩) ?_
                          refine W_co [] [6] [] (s' := (lExps_R (((r50.1.length : Nat) : Int) == 0))) (by kernel_rfl) (W_ret ?_)
                          exact ⟨.inl rfl, by cases h; rfl⟩
                        · replace h := bif_f h g87
                          refine W_reg hT ftL_nil [(1, true), (6, false)] [] [6] [] (s' := ⟨[(6, .c (.s (.b false)))], [], []⟩) (by kernel_rfl) (allP_cons.2 ⟨g85, (allP_cons.2 ⟨g86, (allP_cons.2 ⟨g87, allP_nil⟩)⟩)⟩) ?_
                          refine W_co [] [6] [] (s' := (lExps_R false)) (by kernel_rfl) (W_ret ?_)
                          exact ⟨.inl rfl, by cases h; rfl⟩
                      · replace h := bif_f h g85
                        refine W_reg hT ftL_nil [(1, false)] [] [6] [] (s' := ⟨[(6, .c (.s (.b false)))], [], []⟩) (by kernel_rfl) (allP_cons.2 ⟨g85, allP_nil⟩) ?_
                        refine W_co [] [6] [] (s' := (lExps_R false)) (by kernel_rfl) (W_ret ?_)
                        exact ⟨.inl rfl, by cases h; rfl⟩
                    · replace h := bif_f h g99
                      refine W_co [] [0, 1, 2, 7, 8, 9] [0, 1, 2, 3] (s' := ⟨[(0, .c (.wh 0)), (1, .c (.wh 1)), (2, .c (.wh 2)), (7, .c (.s (.b r11))), (8, .c (.wh 3)), (9, .c (.s (.er 30 .i64 r50.2)))], [], [⟨(.ro false), 45, 1, l0.length, .w l0⟩, ⟨(.ro false), 45, 1, l1.length, .w l1⟩, ⟨(.ro false), 45, 1, l2.length, .w l2⟩, ⟨.row, 45, 1, r50.1.length, .w r50.1⟩]⟩) (by kernel_rfl) (W_skip ?_)
                      refine W_seq ?_
                      obtain ⟨r78, g88, h⟩ := bind_some' h
                      refine W_reg hT (ftL_cons (k := 1) (f := 15) (F := (rOf_ct n r78)) (rOf_ok n r78) (fun _ _ => True.intro) ftL_nil) [] [] [0, 1, 7, 8, 9, 10] [0, 1, 3, 4] (s' := ⟨[(0, .c (.wh 0)), (1, .c (.wh 1)), (7, .c (.s (.b r11))), (8, .c (.wh 2)), (9, .c (.s (.er 30 .i64 r50.2))), (10, .c (.wh 3))], [], [⟨(.ro false), 45, 1, l0.length, .w l0⟩, ⟨(.ro false), 45, 1, l1.length, .w l1⟩, ⟨.row, 45, 1, r50.1.length, .w r50.1⟩, ⟨(.ro true), 3, 1, r78.2, .z r78.1⟩]⟩) (by kernel_rfl) (allP_cons.2 ⟨g88, allP_nil⟩) ?_
                      refine W_seq ?_
                      refine W_seq ?_
                      refine W_reg hT ftL_nil [] [] [0, 1, 7, 8, 9, 10, 81] [0, 1, 2, 3] (s' := ⟨[(0, .c (.wh 0)), (1, .c (.wh 1)), (7, .c (.s (.b r11))), (8, .c (.wh 2)), (9, .c (.s (.er 30 .i64 r50.2))), (10, .c (.wh 3)), (81, .c (.s (.b (((r78.2 : Nat) : Int) == 0))))], [], [⟨(.ro false), 45, 1, l0.length, .w l0⟩, ⟨(.ro false), 45, 1, l1.length, .w l1⟩, ⟨.row, 45, 1, r50.1.length, .w r50.1⟩, ⟨(.ro true), 3, 1, r78.2, .z r78.1⟩]⟩) (by kernel_rfl) allP_nil ?_
                      refine W_cond (b := (((r78.2 : Nat) : Int) == 0)) (by kernel_rfl) (fun g98 => ?_) (fun g98 => ?_)
                      · replace h := bif_t h g98
                        refine W_seq ?_
                        rcases Bool.eq_false_or_eq_true r11 with g89 | g89
                        · replace h := bif_t h g89
                          obtain ⟨g90, h⟩ := gd_some h
                          rcases Bool.eq_false_or_eq_true (r50.2 == (some 1)) with g91 | g91
                          · replace h := bif_t h g91
                            refine W_reg hT ftL_nil [(1, true), (6, true)] [] [6] [] (s' := ⟨[(6, .c (.s (.b (((r50.1.length : Nat) : Int) == 0))))], [], []⟩) (by kernel_rfl) (allP_cons.2 ⟨g89, (allP_cons.2 ⟨g90, (allP_cons.2 ⟨g91, allP_nil⟩)⟩)⟩) ?_
                            refine W_co [] [6] [] (s' := (lExps_R (((r50.1.length : Nat) : Int) == 0))) (by kernel_rfl) (W_ret ?_)
                            exact ⟨.inl rfl, by cases h; rfl⟩
                          · replace h := bif_f h g91
                            refine W_reg hT ftL_nil [(1, true), (6, false)] [] [6] [] (s' := ⟨[(6, .c (.s (.b false)))], [], []⟩) (by kernel_rfl) (allP_cons.2 ⟨g89, (allP_cons.2 ⟨g90, (allP_cons.2 ⟨g91, allP_nil⟩)⟩)⟩) ?_
                            refine W_co [] [6] [] (s' := (lExps_R false)) (by kernel_rfl) (W_ret ?_)
                            exact ⟨.inl rfl, by cases h; rfl⟩
                        · replace h := bif_f h g89
                          refine W_reg hT ftL_nil [(1, false)] [] [6] [] (s' := ⟨[(6, .c (.s (.b false)))], [], []⟩) (by kernel_rfl) (allP_cons.2 ⟨g89, allP_nil⟩) ?_
                          refine W_co [] [6] [] (s' := (lExps_R false)) (by kernel_rfl) (W_ret ?_)
                          exact ⟨.inl rfl, by cases h; rfl⟩
                      · replace h := bif_f h g98
                        refine W_co [] [0, 1, 7, 8, 9, 10] [0, 1, 2, 3] (s' := ⟨[(0, .c (.wh 0)), (1, .c (.wh 1)), (7, .c (.s (.b r11))), (8, .c (.wh 2)), (9, .c (.s (.er 30 .i64 r50.2))), (10, .c (.wh 3))], [], [⟨(.ro false), 45, 1, l0.length, .w l0⟩, ⟨(.ro false), 45, 1, l1.length, .w l1⟩, ⟨.row, 45, 1, r50.1.length, .w r50.1⟩, ⟨(.ro true), 3, 1, r78.2, .z r78.1⟩]⟩) (by kernel_rfl) (W_skip ?_)
                        refine W_seq ?_
                        rcases Bool.eq_false_or_eq_true r11 with g92 | g92
                        · replace h := bif_t h g92
                          rcases Bool.eq_false_or_eq_true ((r50.2).isNone) with g93 | g93
                          · replace h := bif_t h g93
                            obtain ⟨r101, g94, h⟩ := bind_some' h
                            obtain ⟨r103, g95, h⟩ := bind_some' h
                            obtain ⟨r105, g96, h⟩ := bind_some' h
                            obtain ⟨r106, g97, h⟩ := bind_some' h
                            refine W_reg hT (ftL_cons (k := 8) (f := 15) (F := (rOf_ct n r101)) (rOf_ok n r101) (fun _ _ => True.intro) (ftL_cons (k := 10) (f := 15) (F := (rOf_ct n r103)) (rOf_ok n r103) (fun _ _ => True.intro) (ftL_cons (k := 12) (f := 19) (F := (rExp_ct n r105)) (rExp_ok n r105) (fun _ _ => True.intro) (ftL_cons (k := 13) (f := 17) (F := (rSame_ct n r106)) (rSame_ok n r106) (fun _ _ => True.intro) ftL_nil)))) [(1, true), (5, true)] [] [6] [] (s' := ⟨[(6, .c (.s (.b r106)))], [], []⟩) (by kernel_rfl) (allP_cons.2 ⟨g92, (allP_cons.2 ⟨g93, (allP_cons.2 ⟨g94, (allP_cons.2 ⟨g95, (allP_cons.2 ⟨g96, (allP_cons.2 ⟨g97, allP_nil⟩)⟩)⟩)⟩)⟩)⟩) ?_
                            refine W_co [] [6] [] (s' := (lExps_R r106)) (by kernel_rfl) (W_ret ?_)
                            exact ⟨.inl rfl, by cases h; rfl⟩
                          · replace h := bif_f h g93
                            refine W_reg hT ftL_nil [(1, true), (5, false)] [] [6] [] (s' := ⟨[(6, .c (.s (.b false)))], [], []⟩) (by kernel_rfl) (allP_cons.2 ⟨g92, (allP_cons.2 ⟨g93, allP_nil⟩)⟩) ?_
                            refine W_co [] [6] [] (s' := (lExps_R false)) (by kernel_rfl) (W_ret ?_)
                            exact ⟨.inl rfl, by cases h; rfl⟩
                        · replace h := bif_f h g92
                          refine W_reg hT ftL_nil [(1, false)] [] [6] [] (s' := ⟨[(6, .c (.s (.b false)))], [], []⟩) (by kernel_rfl) (allP_cons.2 ⟨g92, allP_nil⟩) ?_
                          refine W_co [] [6] [] (s' := (lExps_R false)) (by kernel_rfl) (W_ret ?_)
                          exact ⟨.inl rfl, by cases h; rfl⟩
          · replace h := bif_f h g70
            obtain ⟨r42, g101, h⟩ := bind_some' h
            refine W_reg hT (ftL_cons (k := 1) (f := 12) (F := (llight_ct n r13)) (llight_ok n r13) (fun _ _ => True.intro) (ftL_cons (k := 15) (f := 12) (F := (llight_ct n r27)) (llight_ok n r27) (fun _ _ => True.intro) (ftL_cons (k := 30) (f := 12) (F := (llight_ct n r42)) (llight_ok n r42) (fun _ _ => True.intro) ftL_nil))) [(3, false), (7, false), (18, false), (22, false)] [] [0, 1, 2, 7, 44] [0, 1, 2] (s' := ⟨[(0, .c (.wh 0)), (1, .c (.wh 1)), (2, .c (.wh 2)), (7, .c (.s (.b r11))), (44, .c (.s (.b (!r42))))], [], [⟨(.ro false), 45, 1, l0.length, .w l0⟩, ⟨(.ro false), 45, 1, l1.length, .w l1⟩, ⟨(.ro false), 45, 1, l2.length, .w l2⟩]⟩) (by kernel_rfl) (allP_cons.2 ⟨g2, (allP_cons.2 ⟨g3, (allP_cons.2 ⟨g4, (allP_cons.2 ⟨g68, (allP_cons.2 ⟨g69, (allP_cons.2 ⟨g70, (allP_cons.2 ⟨g101, allP_nil⟩)⟩)⟩)⟩)⟩)⟩)⟩) ?_
            refine W_cond (b := (!r42)) (by kernel_rfl) (fun g129 => ?_) (fun g129 => ?_)
            · replace h := bif_t h g129
              refine W_seq ?_
              refine W_reg hT ftL_nil [] [] [6] [] (s' := ⟨[(6, .c (.s (.b r11)))], [], []⟩) (by kernel_rfl) allP_nil ?_
              refine W_co [] [6] [] (s' := (lExps_R r11)) (by kernel_rfl) (W_ret ?_)
              exact ⟨.inl rfl, by cases h; rfl⟩
            · replace h := bif_f h g129
              refine W_co [] [0, 1, 2, 7] [0, 1, 2] (s' := ⟨[(0, .c (.wh 0)), (1, .c (.wh 1)), (2, .c (.wh 2)), (7, .c (.s (.b r11)))], [], [⟨(.ro false), 45, 1, l0.length, .w l0⟩, ⟨(.ro false), 45, 1, l1.length, .w l1⟩, ⟨(.ro false), 45, 1, l2.length, .w l2⟩]⟩) (by kernel_rfl) (W_skip ?_)
              refine W_seq ?_
              obtain ⟨r50, g102, h⟩ := bind_some' h
              refine W_reg hT (ftL_cons (k := 3) (f := 18) (F := (pExp_ct n r50)) (pExp_ok n r50) (fun _ _ => True.intro) ftL_nil) [] [] [0, 1, 2, 7, 8, 9] [0, 1, 2, 3] (s' := ⟨[(0, .c (.wh 0)), (1, .c (.wh 1)), (2, .c (.wh 2)), (7, .c (.s (.b r11))), (8, .c (.wh 3)), (9, .c (.s (.er 30 .i64 r50.2)))], [], [⟨(.ro false), 45, 1, l0.length, .w l0⟩, ⟨(.ro false), 45, 1, l1.length, .w l1⟩, ⟨(.ro false), 45, 1, l2.length, .w l2⟩, ⟨.row, 45, 1, r50.1.length, .w r50.1⟩]⟩) (by kernel_rfl) (allP_cons.2 ⟨g102, allP_nil⟩) ?_
              refine W_seq ?_
              refine W_seq ?_
              obtain ⟨r54, g103, h⟩ := bind_some' h
              rcases Bool.eq_false_or_eq_true (!r54) with g104 | g104
              · replace h := bif_t h g104
                refine W_reg hT (ftL_cons (k := 1) (f := 14) (F := (rMay_ct n r54)) (rMay_ok n r54) (fun _ _ => True.intro) ftL_nil) [(3, true)] [] [0, 1, 2, 7, 8, 9, 65] [0, 1, 2, 3] (s' := ⟨[(0, .c (.wh 0)), (1, .c (.wh 1)), (2, .c (.wh 2)), (7, .c (.s (.b r11))), (8, .c (.wh 3)), (9, .c (.s (.er 30 .i64 r50.2))), (65, .c (.s (.b true)))], [], [⟨(.ro false), 45, 1, l0.length, .w l0⟩, ⟨(.ro false), 45, 1, l1.length, .w l1⟩, ⟨(.ro false), 45, 1, l2.length, .w l2⟩, ⟨.row, 45, 1, r50.1.length, .w r50.1⟩]⟩) (by kernel_rfl) (allP_cons.2 ⟨g103, (allP_cons.2 ⟨g104, allP_nil⟩)⟩) ?_
                refine W_cond (b := true) (by kernel_rfl) (fun _ => ?_) (fun hb => by cases hb)
                refine W_seq ?_
                rcases Bool.eq_false_or_eq_true r11 with g105 | g105
                · replace h := bif_t h g105
                  obtain ⟨g106, h⟩ := gd_some h
                  rcases Bool.eq_false_or_eq_true (r50.2 == (some 4)) with g107 | g107
                  · replace h := bif_t h g107
                    refine W_reg hT ftL_nil [(1, true), (6, true)] [] [6] [] (s' := ⟨[(6, .c (.s (.b (((r50.1.length : Nat) : Int) == 0))))], [], []⟩) (by kernel_rfl) (allP_cons.2 ⟨g105, (allP_cons.2 ⟨g106, (allP_cons.2 ⟨g107, allP_nil⟩)⟩)⟩) ?_
                    refine W_co [] [6] [] (s' := (lExps_R (((r50.1.length : Nat) : Int) == 0))) (by kernel_rfl) (W_ret ?_)
                    exact ⟨.inl rfl, by cases h; rfl⟩
                  · replace h := bif_f h g107
                    refine W_reg hT ftL_nil [(1, true), (6, false)] [] [6] [] (s' := ⟨[(6, .c (.s (.b false)))], [], []⟩) (by kernel_rfl) (allP_cons.2 ⟨g105, (allP_cons.2 ⟨g106, (allP_cons.2 ⟨g107, allP_nil⟩)⟩)⟩) ?_
                    refine W_co [] [6] [] (s' := (lExps_R false)) (by kernel_rfl) (W_ret ?_)
                    exact ⟨.inl rfl, by cases h; rfl⟩
                · replace h := bif_f h g105
                  refine W_reg hT ftL_nil [(1, false)] [] [6] [] (s' := ⟨[(6, .c (.s (.b false)))], [], []⟩) (by kernel_rfl) (allP_cons.2 ⟨g105, allP_nil⟩) ?_
                  refine W_co [] [6] [] (s' := (lExps_R false)) (by kernel_rfl) (W_ret ?_)
                  exact ⟨.inl rfl, by cases h; rfl⟩
              · replace h := bif_f h g104
                obtain ⟨r58, g108, h⟩ := bind_some' h
                rcases Bool.eq_false_or_eq_true (!r58) with g109 | g109
                · replace h := bif_t h g109
                  refine W_reg hT (ftL_cons (k := 1) (f := 14) (F := (rMay_ct n r54)) (rMay_ok n r54) (fun _ _ => True.intro) (ftL_cons (k := 5) (f := 14) (F := (rMay_ct n r58)) (rMay_ok n r58) (fun _ _ => True.intro) ftL_nil)) [(3, false), (8, true)] [] [0, 1, 2, 7, 8, 9, 65] [0, 1, 2, 3] (s' := ⟨[(0, .c (.wh 0)), (1, .c (.wh 1)), (2, .c (.wh 2)), (7, .c (.s (.b r11))), (8, .c (.wh 3)), (9, .c (.s (.er 30 .i64 r50.2))), (65, .c (.s (.b true)))], [], [⟨(.ro false), 45, 1, l0.length, .w l0⟩, ⟨(.ro false), 45, 1, l1.length, .w l1⟩, ⟨(.ro false), 45, 1, l2.length, .w l2⟩, ⟨.row, 45, 1, r50.1.length, .w r50.1⟩]⟩) (by kernel_rfl) (allP_cons.2 ⟨g103, (allP_cons.2 ⟨g104, (allP_cons.2 ⟨g108, (allP_cons.2 ⟨g109, allP_nil⟩)⟩)⟩)⟩) ?_
                  refine W_cond (b := true) (by kernel_rfl) (fun _ => ?_) (fun hb => by cases hb)
                  refine W_seq ?_
                  rcases Bool.eq_false_or_eq_true r11 with g110 | g110
                  · replace h := bif_t h g110
                    obtain ⟨g111, h⟩ := gd_some h
                    rcases Bool.eq_false_or_eq_true (r50.2 == (some 4)) with g112 | g112
                    · replace h := bif_t h g112
                      refine W_reg hT ftL_nil [(1, true), (6, true)] [] [6] [] (s' := ⟨[(6, .c (.s (.b (((r50.1.length : Nat) : Int) == 0))))], [], []⟩) (by kernel_rfl) (allP_cons.2 ⟨g110, (allP_cons.2 ⟨g111, (allP_cons.2 ⟨g112, allP_nil⟩)⟩)⟩) ?_
                      refine W_co [] [6] [] (s' := (lExps_R (((r50.1.length : Nat) : Int) == 0))) (by kernel_rfl) (W_ret ?_)
                      exact ⟨.inl rfl, by cases h; rfl⟩
                    · replace h := bif_f h g112
                      refine W_reg hT ftL_nil [(1, true), (6, false)] [] [6] [] (s' := ⟨[(6, .c (.s (.b false)))], [], []⟩) (by kernel_rfl) (allP_cons.2 ⟨g110, (allP_cons.2 ⟨g111, (allP_cons.2 ⟨g112, allP_nil⟩)⟩)⟩) ?_
                      refine W_co [] [6] [] (s' := (lExps_R false)) (by kernel_rfl) (W_ret ?_)
                      exact ⟨.inl rfl, by cases h; rfl⟩
                  · replace h := bif_f h g110
                    refine W_reg hT ftL_nil [(1, false)] [] [6] [] (s' := ⟨[(6, .c (.s (.b false)))], [], []⟩) (by kernel_rfl) (allP_cons.2 ⟨g110, allP_nil⟩) ?_
                    refine W_co [] [6] [] (s' := (lExps_R false)) (by kernel_rfl) (W_ret ?_)
                    exact ⟨.inl rfl, by cases h; rfl⟩
                · replace h := bif_f h g109
                  obtain ⟨r63, g113, h⟩ := bind_some' h
                  refine W_reg hT (ftL_cons (k := 1) (f := 14) (F := (rMay_ct n r54)) (rMay_ok n r54) (fun _ _ => True.intro) (ftL_cons (k := 5) (f := 14) (F := (rMay_ct n r58)) (rMay_ok n r58) (fun _ _ => True.intro) (ftL_cons (k := 10) (f := 14) (F := (rMay_ct n r63)) (rMay_ok n r63) (fun _ _ => True.intro) ftL_nil))) [(3, false), (8, false)] [] [0, 1, 2, 7, 8, 9, 65] [0, 1, 2, 3] (s' := ⟨[(0, .c (.wh 0)), (1, .c (.wh 1)), (2, .c (.wh 2)), (7, .c (.s (.b r11))), (8, .c (.wh 3)), (9, .c (.s (.er 30 .i64 r50.2))), (65, .c (.s (.b (!r63))))], [], [⟨(.ro false), 45, 1, l0.length, .w l0⟩, ⟨(.ro false), 45, 1, l1.length, .w l1⟩, ⟨(.ro false), 45, 1, l2.length, .w l2⟩, ⟨.row, 45, 1, r50.1.length, .w r50.1⟩]⟩) (by kernel_rfl) (allP_cons.2 ⟨g103, (allP_cons.2 ⟨g104, (allP_cons.2 ⟨g108, (allP_cons.2 ⟨g109, (allP_cons.2 ⟨g113, allP_nil⟩)⟩)⟩)⟩)⟩) ?_
                  refine W_cond (b := (!r63)) (by kernel_rfl) (fun g128 => ?_) (fun g128 => ?_)
                  · replace h := bif_t h g128
                    refine W_seq ?_
                    rcases Bool.eq_false_or_eq_true r11 with g114 | g114
                    · replace h := bif_t h g114
                      obtain ⟨g115, h⟩ := gd_some h
                      rcases Bool.eq_false_or_eq_true (r50.2 == (some 4)) with g116 | g116
                      · replace h := bif_t h g116
                        refine W_reg hT ftL_nil [(1, true), (6, true)] [] [6] [] (s' := ⟨[(6, .c (.s (.b (((r50.1.length : Nat) : Int) == 0))))], [], []⟩) (by kernel_rfl) (allP_cons.2 ⟨g114, (allP_cons.2 ⟨g115, (allP_cons.2 ⟨g116, allP_nil⟩)⟩)⟩) ?_
                        refine W_co [] [6] [] (s' := (lExps_R (((r50.1.length : Nat) : Int) == 0))) (by kernel_rfl) (W_ret ?_)
                        exact ⟨.inl rfl, by cases h; rfl⟩
                      · replace h := bif_f h g116
                        refine W_reg hT ftL_nil [(1, true), (6, false)] [] [6] [] (s' := ⟨[(6, .c (.s (.b false)))], [], []⟩) (by kernel_rfl) (allP_cons.2 ⟨g114, (allP_cons.2 ⟨g115, (allP_cons.2 ⟨g116, allP_nil⟩)⟩)⟩) ?_
                        refine W_co [] [6] [] (s' := (lExps_R false)) (by kernel_rfl) (W_ret ?_)
                        exact ⟨.inl rfl, by cases h; rfl⟩
                    · replace h := bif_f h g114
                      refine W_reg hT ftL_nil [(1, false)] [] [6] [] (s' := ⟨[(6, .c (.s (.b false)))], [], []⟩) (by kernel_rfl) (allP_cons.2 ⟨g114, allP_nil⟩) ?_
                      refine W_co [] [6] [] (s' := (lExps_R false)) (by kernel_rfl) (W_ret ?_)
                      exact ⟨.inl rfl, by cases h; rfl⟩
                  · replace h := bif_f h g128
                    refine W_co [] [0, 1, 2, 7, 8, 9] [0, 1, 2, 3] (s' := ⟨[(0, .c (.wh 0)), (1, .c (.wh 1)), (2, .c (.wh 2)), (7, .c (.s (.b r11))), (8, .c (.wh 3)), (9, .c (.s (.er 30 .i64 r50.2)))], [], [⟨(.ro false), 45, 1, l0.length, .w l0⟩, ⟨(.ro false), 45, 1, l1.length, .w l1⟩, ⟨(.ro false), 45, 1, l2.length, .w l2⟩, ⟨.row, 45, 1, r50.1.length, .w r50.1⟩]⟩) (by kernel_rfl) (W_skip ?_)
                    refine W_seq ?_
                    obtain ⟨r78, g117, h⟩ := bind_some' h
                    refine W_reg hT (ftL_cons (k := 1) (f := 15) (F := (rOf_ct n r78)) (rOf_ok n r78) (fun _ _ => True.intro) ftL_nil) [] [] [0, 1, 7, 8, 9, 10] [0, 1, 3, 4] (s' := ⟨[(0, .c (.wh 0)), (1, .c (.wh 1)), (7, .c (.s (.b r11))), (8, .c (.wh 2)), (9, .c (.s (.er 30 .i64 r50.2))), (10, .c (.wh 3))], [], [⟨(.ro false), 45, 1, l0.length, .w l0⟩, ⟨(.ro false), 45, 1, l1.length, .w l1⟩, ⟨.row, 45, 1, r50.1.length, .w r50.1⟩, ⟨(.ro true), 3, 1, r78.2, .z r78.1⟩]⟩) (by kernel_rfl) (allP_cons.2 ⟨g117, allP_nil⟩) ?_
                    refine W_seq ?_
                    refine W_seq ?_
                    refine W_reg hT ftL_nil [] [] [0, 1, 7, 8, 9, 10, 81] [0, 1, 2, 3] (s' := ⟨[(0, .c (.wh 0)), (1, .c (.wh 1)), (7, .c (.s (.b r11))), (8, .c (.wh 2)), (9, .c (.s (.er 30 .i64 r50.2))), (10, .c (.wh 3)), (81, .c (.s (.b (((r78.2 : Nat) : Int) == 0))))], [], [⟨(.ro false), 45, 1, l0.length, .w l0⟩, ⟨(.ro false), 45, 1, l1.length, .w l1⟩, ⟨.row, 45, 1, r50.1.length, .w r50.1⟩, ⟨(.ro true), 3, 1, r78.2, .z r78.1⟩]⟩) (by kernel_rfl) allP_nil ?_
                    refine W_cond (b := (((r78.2 : Nat) : Int) == 0)) (by kernel_rfl) (fun g127 => ?_) (fun g127 => ?_)
                    · replace h := bif_t h g127
                      refine W_seq ?_
                      rcases Bool.eq_false_or_eq_true r11 with g118 | g118
                      · replace h := bif_t h g118
                        obtain ⟨g119, h⟩ := gd_some h
                        rcases Bool.eq_false_or_eq_true (r50.2 == (some 1)) with g120 | g120
                        · replace h := bif_t h g120
                          refine W_reg hT ftL_nil [(1, true), (6, true)] [] [6] [] (s' := ⟨[(6, .c (.s (.b (((r50.1.length : Nat) : Int) == 0))))], [], []⟩) (by kernel_rfl) (allP_cons.2 ⟨g118, (allP_cons.2 ⟨g119, (allP_cons.2 ⟨g120, allP_nil⟩)⟩)⟩) ?_
                          refine W_co [] [6] [] (s' := (lExps_R (((r50.1.length : Nat) : Int) == 0))) (by kernel_rfl) (W_ret ?_)
                          exact ⟨.inl rfl, by cases h; rfl⟩
                        · replace h := bif_f h g120
                          refine W_reg hT ftL_nil [(1, true), (6, false)] [] [6] [] (s' := ⟨[(6, .c (.s (.b false)))], [], []⟩) (by kernel_rfl) (allP_cons.2 ⟨g118, (allP_cons.2 ⟨g119, (allP_cons.2 ⟨g120, allP_nil⟩)⟩)⟩) ?_
                          refine W_co [] [6] [] (s' := (lExps_R false)) (by kernel_rfl) (W_ret ?_)
                          exact ⟨.inl rfl, by cases h; rfl⟩
                      · replace h := bif_f h g118
                        refine W_reg hT ftL_nil [(1, false)] [] [6] [] (s' := ⟨[(6, .c (.s (.b false)))], [], []⟩) (by kernel_rfl) (allP_cons.2 ⟨g118, allP_nil⟩) ?_
                        refine W_co [] [6] [] (s' := (lExps_R false)) (by kernel_rfl) (W_ret ?_)
                        exact ⟨.inl rfl, by cases h; rfl⟩
                    · replace h := bif_f h g127
                      refine W_co [] [0, 1, 7, 8, 9, 10] [0, 1, 2, 3] (s' := ⟨[(0, .c (.wh 0)), (1, .c (.wh 1)), (7, .c (.s (.b r11))), (8, .c (.wh 2)), (9, .c (.s (.er 30 .i64 r50.2))), (10, .c (.wh 3))], [], [⟨(.ro false), 45, 1, l0.length, .w l0⟩, ⟨(.ro false), 45, 1, l1.length, .w l1⟩, ⟨.row, 45, 1, r50.1.length, .w r50.1⟩, ⟨(.ro true), 3, 1, r78.2, .z r78.1⟩]⟩) (by kernel_rfl) (W_skip ?_)
                      refine W_seq ?_
                      rcases Bool.eq_false_or_eq_true r11 with g121 | g121
                      · replace h := bif_t h g121
                        rcases Bool.eq_false_or_eq_true ((r50.2).isNone) with g122 | g122
                        · replace h := bif_t h g122
                          obtain ⟨r101, g123, h⟩ := bind_some' h
                          obtain ⟨r103, g124, h⟩ := bind_some' h
                          obtain ⟨r105, g125, h⟩ := bind_some' h
                          obtain ⟨r106, g126, h⟩ := bind_some' h
                          refine W_reg hT (ftL_cons (k := 8) (f := 15) (F := (rOf_ct n r101)) (rOf_ok n r101) (fun _ _ => True.intro) (ftL_cons (k := 10) (f := 15) (F := (rOf_ct n r103)) (rOf_ok n r103) (fun _ _ => True.intro) (ftL_cons (k := 12) (f := 19) (F := (rExp_ct n r105)) (rExp_ok n r105) (fun _ _ => True.intro) (ftL_cons (k := 13) (f := 17) (F := (rSame_ct n r106)) (rSame_ok n r106) (fun _ _ => True.intro) ftL_nil)))) [(1, true), (5, true)] [] [6] [] (s' := ⟨[(6, .c (.s (.b r106)))], [], []⟩) (by kernel_rfl) (allP_cons.2 ⟨g121, (allP_cons.2 ⟨g122, (allP_cons.2 ⟨g123, (allP_cons.2 ⟨g124, (allP_cons.2 ⟨g125, (allP_cons.2 ⟨g126, allP_nil⟩)⟩)⟩)⟩)⟩)⟩) ?_
                          refine W_co [] [6] [] (s' := (lExps_R r106)) (by kernel_rfl) (W_ret ?_)
                          exact ⟨.inl rfl, by cases h; rfl⟩
                        · replace h := bif_f h g122
                          refine W_reg hT ftL_nil [(1, true), (5, false)] [] [6] [] (s' := ⟨[(6, .c (.s (.b false)))], [], []⟩) (by kernel_rfl) (allP_cons.2 ⟨g121, (allP_cons.2 ⟨g122, allP_nil⟩)⟩) ?_
                          refine W_co [] [6] [] (s' := (lExps_R false)) (by kernel_rfl) (W_ret ?_)
                          exact ⟨.inl rfl, by cases h; rfl⟩
                      · replace h := bif_f h g121
                        refine W_reg hT ftL_nil [(1, false)] [] [6] [] (s' := ⟨[(6, .c (.s (.b false)))], [], []⟩) (by kernel_rfl) (allP_cons.2 ⟨g121, allP_nil⟩) ?_
                        refine W_co [] [6] [] (s' := (lExps_R false)) (by kernel_rfl) (W_ret ?_)
                        exact ⟨.inl rfl, by cases h; rfl⟩
  · rintro e s' ⟨he, rfl⟩
    refine ⟨he, fun a' w' hr => ?_⟩
    exact retS_ok tabO_nvexps hr (rs := [.tmp 6]) rfl (objs := []) (by kernel_rfl)
end Go.Proofs.Ytpinmaodpfoinaa
