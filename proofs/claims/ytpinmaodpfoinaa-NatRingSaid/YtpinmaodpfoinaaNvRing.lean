import Derived.Test.YtpinmaodpfoinaaSxX
import Derived.Test.YtpinmaodpfoinaaProg
import Derived.Test.YtpinmaodpfoinaaNu
set_option linter.unusedVariables false
set_option linter.unusedSimpArgs false
namespace Go.Proofs.Ytpinmaodpfoinaa
open Go.RowKit Go.Ch Go.Sx

def tabL_nvring : List (TypeId × Ti) := [(23, ⟨.sl 45, 1, 24, false, some [.nils]⟩),
  (27, ⟨.ifc, 1, 16, true, some [.ifc]⟩),
  (30, ⟨.int .i64, 1, 8, true, some [.int .i64]⟩),
  (45, ⟨.int .u32, 1, 4, true, some [.int .u32]⟩)]
def tab_nvring : Tab := fun t => (tabL_nvring).lookup t
theorem tabE_nvring : (tabL_nvring.map fun p => tiOf Try.prog p.1) = tabL_nvring.map fun p => some p.2 := by kernel_rfl
theorem tabO_nvring : TabOk Try.prog tab_nvring := tab_of tabE_nvring

def lRing (n : Nat) (a0 : List UInt32) (a1 : List UInt32) (a2 : List UInt32) : Option (Bool) :=
  (lup n).bind fun r33 =>
  bif (decide ((15 : Int) < ((a0.length : Nat) : Int))) then
    some r33
  else
    bif (decide ((15 : Int) < ((a1.length : Nat) : Int))) then
      some r33
    else
      bif (decide ((15 : Int) < ((a2.length : Nat) : Int))) then
        some r33
      else
        (pAdd n a0 a1).bind fun r51 =>
        (pAdd n a1 a0).bind fun r57 =>
        (pMul n a0 a1).bind fun r63 =>
        (pMul n a1 a0).bind fun r69 =>
        (pMul n a2 r51.1).bind fun r75 =>
        (pMul n a2 a0).bind fun r81 =>
        (pMul n a2 a1).bind fun r87 =>
        (pAdd n r81.1 r87.1).bind fun r93 =>
        (pSub n r51.1 a1).bind fun r99 =>
        bif (!((r51.2.2).isNone)) then
          some false
        else
          bif (!((r57.2.2).isNone)) then
            some false
          else
            bif (!((r63.2.2).isNone)) then
              some false
            else
              bif (!((r69.2.2).isNone)) then
                some false
              else
                bif (!((r75.2.2).isNone)) then
                  some false
                else
                  bif (!((r81.2.2).isNone)) then
                    some false
                  else
                    bif (!((r87.2.2).isNone)) then
                      some false
                    else
                      bif (!((r93.2.2).isNone)) then
                        some false
                      else
                        bif (!((r99.2.2).isNone)) then
                          some false
                        else
                          (pCmp n r51.1 r57.1).bind fun r138 =>
                          bif (r138 != 0) then
                            some false
                          else
                            (pCmp n r63.1 r69.1).bind fun r143 =>
                            bif (r143 != 0) then
                              some false
                            else
                              (pCmp n r75.1 r93.1).bind fun r149 =>
                              bif (r149 != 0) then
                                some false
                              else
                                (pCmp n r99.1 a0).bind fun r155 =>
                                bif (r155 != 0) then
                                  some false
                                else
                                  (pDiv n r63.1 a2).bind fun r161 =>
                                  (pCmp n a2 []).bind fun r166 =>
                                  bif (r166 == 0) then
                                    bif r33 then
                                      gd (¬((r161.2.2.2.2 : Option Int) = none ∧ ((some 1) : Option Int) = none)) <|
                                      some (r161.2.2.2.2 == (some 1))
                                    else
                                      some false
                                  else
                                    (pMul n r161.1 a2).bind fun r177 =>
                                    (pAdd n r177.1 r161.2.2.1).bind fun r183 =>
                                    bif r33 then
                                      bif ((r161.2.2.2.2).isNone) then
                                        bif ((r177.2.2).isNone) then
                                          bif ((r183.2.2).isNone) then
                                            (pCmp n r183.1 r63.1).bind fun r202 =>
                                            bif (r202 == 0) then
                                              (pCmp n r161.2.2.1 a2).bind fun r208 =>
                                              some (decide (r208 < (0 : Int)))
                                            else
                                              some false
                                          else
                                            some false
                                        else
                                          some false
                                      else
                                        some false
                                    else
                                      some false

def lRing_R (r : Bool) : S := ⟨[(6, .c (.s (.b r)))], [], []⟩
def lRing_ct (n : Nat) (r : Bool) : Ct := fun args H => match args with
  | [x0, x1, x2] => (match aW H x0 with | some l0 => (match aW H x1 with | some l1 => (match aW H x2 with | some l2 => some ([lRing n l0 l1 l2 = some r], shA H.length (.c (.s (.b r))), shH H.length []) | none => none) | none => none) | none => none)
  | _ => none
theorem lRing_ok (n : Nat) (r : Bool) : FnOk Try.prog Tr 9 (lRing_ct n r) := by
  refine ⟨fun args H g av objs hF hg ρ w vals hG hp ha => ?_, _, Try.func9, by kernel_rfl, by kernel_rfl⟩
  obtain ⟨x0, x1, x2, rfl⟩ : ∃ x0 x1 x2, args = [x0, x1, x2] := by
    unfold lRing_ct at hF; split at hF
    · exact ⟨_, _, _, rfl⟩
    · cases hF
  cases e0 : aW H x0 with
  | none => simp only [lRing_ct, e0, reduceCtorEq] at hF
  | some l0 =>
  cases e1 : aW H x1 with
  | none => simp only [lRing_ct, e0, e1, reduceCtorEq] at hF
  | some l1 =>
  cases e2 : aW H x2 with
  | none => simp only [lRing_ct, e0, e1, e2, reduceCtorEq] at hF
  | some l2 =>
  simp only [lRing_ct, e0, e1, e2, Option.some.injEq, Prod.mk.injEq] at hF
  obtain ⟨rfl, rfl, rfl⟩ := hF
  obtain ⟨v0, vals, rfl, k0, ha⟩ := F2.inv ha
  obtain ⟨v1, vals, rfl, k1, ha⟩ := F2.inv ha
  obtain ⟨v2, vals, rfl, k2, ha⟩ := F2.inv ha
  obtain rfl := F2.inv0 ha
  have hI : ∀ w', Kp (noB (fun _ => undef)) w w' → Tr w' := fun _ hk => Tr.keep hk.below hG
  have h : lRing n l0 l1 l2 = some r := hg
  obtain ⟨p0, s0, o0⟩ := aW_ok hp e0 (k0) 45
  obtain ⟨p1, s1, o1⟩ := aW_ok hp e1 (k1) 45
  obtain ⟨p2, s2, o2⟩ := aW_ok hp e2 (k2) 45
  have hR0 := rel0 (gv := (fun _ => undef)) (n := 211) (w := w) (args := [.c (.wh 0), .c (.wh 1), .c (.wh 2)]) (H := [⟨.ro false, 45, 1, l0.length, .w l0⟩, ⟨.ro false, 45, 1, l1.length, .w l1⟩, ⟨.ro false, 45, 1, l2.length, .w l2⟩]) (gl := []) (hpL (ps := [p0, p1, p2]) (F2.cons o0 (F2.cons o1 (F2.cons o2 F2.nil)))) (allRo_ok rfl) (F2.cons s0 (F2.cons s1 (F2.cons s2 F2.nil))) GlR.nil (by simp)
  clear ha hp hg k0 k1 k2 e0 e1 e2
  refine calls_W Try.func9 rfl rfl hR0 (Q := fun e s => (e = .ret ∨ e = .normal) ∧ s = lRing_R r) ?_ ?_
  · clear hR0
    unfold lRing at h
    have hT := tabO_nvring
    refine W_seq ?_
    refine W_reg hT ftL_nil [] [] [0, 1, 2] [0, 1, 2] (s' := ⟨[(0, .c (.wh 0)), (1, .c (.wh 1)), (2, .c (.wh 2))], [], [⟨(.ro false), 45, 1, l0.length, .w l0⟩, ⟨(.ro false), 45, 1, l1.length, .w l1⟩, ⟨(.ro false), 45, 1, l2.length, .w l2⟩]⟩) (by kernel_rfl) allP_nil ?_
    refine W_seq ?_
    obtain ⟨r33, g1, h⟩ := bind_some' h
    refine W_reg hT (ftL_cons (k := 0) (f := 11) (F := (lup_ct n r33)) (lup_ok n r33) (fun _ _ => True.intro) ftL_nil) [] [] [0, 1, 2, 7] [0, 1, 2] (s' := ⟨[(0, .c (.wh 0)), (1, .c (.wh 1)), (2, .c (.wh 2)), (7, .c (.s (.b r33)))], [], [⟨(.ro false), 45, 1, l0.length, .w l0⟩, ⟨(.ro false), 45, 1, l1.length, .w l1⟩, ⟨(.ro false), 45, 1, l2.length, .w l2⟩]⟩) (by kernel_rfl) (allP_cons.2 ⟨g1, allP_nil⟩) ?_
    refine W_seq ?_
    refine W_seq ?_
    rcases Bool.eq_false_or_eq_true (decide ((15 : Int) < ((l0.length : Nat) : Int))) with g2 | g2
    · replace h := bif_t h g2
      refine W_reg hT ftL_nil [(3, true)] [] [0, 1, 2, 7, 46] [0, 1, 2] (s' := ⟨[(0, .c (.wh 0)), (1, .c (.wh 1)), (2, .c (.wh 2)), (7, .c (.s (.b r33))), (46, .c (.s (.b true)))], [], [⟨(.ro false), 45, 1, l0.length, .w l0⟩, ⟨(.ro false), 45, 1, l1.length, .w l1⟩, ⟨(.ro false), 45, 1, l2.length, .w l2⟩]⟩) (by kernel_rfl) (allP_cons.2 ⟨g2, allP_nil⟩) ?_
      refine W_cond (b := true) (by kernel_rfl) (fun _ => ?_) (fun hb => by cases hb)
      refine W_seq ?_
      refine W_reg hT ftL_nil [] [] [6] [] (s' := ⟨[(6, .c (.s (.b r33)))], [], []⟩) (by kernel_rfl) allP_nil ?_
      refine W_co [] [6] [] (s' := (lRing_R r33)) (by kernel_rfl) (W_ret ?_)
      exact ⟨.inl rfl, by cases h; rfl⟩
    · replace h := bif_f h g2
      rcases Bool.eq_false_or_eq_true (decide ((15 : Int) < ((l1.length : Nat) : Int))) with g3 | g3
      · replace h := bif_t h g3
        refine W_reg hT ftL_nil [(3, false), (8, true)] [] [0, 1, 2, 7, 46] [0, 1, 2] (s' := ⟨[(0, .c (.wh 0)), (1, .c (.wh 1)), (2, .c (.wh 2)), (7, .c (.s (.b r33))), (46, .c (.s (.b true)))], [], [⟨(.ro false), 45, 1, l0.length, .w l0⟩, ⟨(.ro false), 45, 1, l1.length, .w l1⟩, ⟨(.ro false), 45, 1, l2.length, .w l2⟩]⟩) (by kernel_rfl) (allP_cons.2 ⟨g2, (allP_cons.2 ⟨g3, allP_nil⟩)⟩) ?_
        refine W_cond (b := true) (by kernel_rfl) (fun _ => ?_) (fun hb => by cases hb)
        refine W_seq ?_
        refine W_reg hT ftL_nil [] [] [6] [] (s' := ⟨[(6, .c (.s (.b r33)))], [], []⟩) (by kernel_rfl) allP_nil ?_
        refine W_co [] [6] [] (s' := (lRing_R r33)) (by kernel_rfl) (W_ret ?_)
        exact ⟨.inl rfl, by cases h; rfl⟩
      · replace h := bif_f h g3
        refine W_reg hT ftL_nil [(3, false), (8, false)] [] [0, 1, 2, 7, 46] [0, 1, 2] (s' := ⟨[(0, .c (.wh 0)), (1, .c (.wh 1)), (2, .c (.wh 2)), (7, .c (.s (.b r33))), (46, .c (.s (.b (decide ((15 : Int) < ((l2.length : Nat) : Int))))))], [], [⟨(.ro false), 45, 1, l0.length, .w l0⟩, ⟨(.ro false), 45, 1, l1.length, .w l1⟩, ⟨(.ro false), 45, 1, l2.length, .w l2⟩]⟩) (by kernel_rfl) (allP_cons.2 ⟨g2, (allP_cons.2 ⟨g3, allP_nil⟩)⟩) ?_
        refine W_cond (b := (decide ((15 : Int) < ((l2.length : Nat) : Int)))) (by kernel_rfl) (fun g44 => ?_) (fun g44 => ?_)
        · replace h := bif_t h g44
          refine W_seq ?_
          refine W_reg hT ftL_nil [] [] [6] [] (s' := ⟨[(6, .c (.s (.b r33)))], [], []⟩) (by kernel_rfl) allP_nil ?_
          refine W_co [] [6] [] (s' := (lRing_R r33)) (by kernel_rfl) (W_ret ?_)
          exact ⟨.inl rfl, by cases h; rfl⟩
        · replace h := bif_f h g44
          refine W_co [] [0, 1, 2, 7] [0, 1, 2] (s' := ⟨[(0, .c (.wh 0)), (1, .c (.wh 1)), (2, .c (.wh 2)), (7, .c (.s (.b r33)))], [], [⟨(.ro false), 45, 1, l0.length, .w l0⟩, ⟨(.ro false), 45, 1, l1.length, .w l1⟩, ⟨(.ro false), 45, 1, l2.length, .w l2⟩]⟩) (by kernel_rfl) (W_skip ?_)
          refine W_seq ?_
          obtain ⟨r51, g4, h⟩ := bind_some' h
          refine W_reg hT (ftL_cons (k := 2) (f := 26) (F := (pAdd_ct n r51)) (pAdd_ok n r51) (fun _ _ => True.intro) ftL_nil) [] [] [0, 1, 2, 7, 8, 9] [0, 1, 2, 3] (s' := ⟨[(0, .c (.wh 0)), (1, .c (.wh 1)), (2, .c (.wh 2)), (7, .c (.s (.b r33))), (8, .c (.wh 3)), (9, .c (.s (.er 30 .i64 r51.2.2)))], [], [⟨(.ro false), 45, 1, l0.length, .w l0⟩, ⟨(.ro false), 45, 1, l1.length, .w l1⟩, ⟨(.ro false), 45, 1, l2.length, .w l2⟩, ⟨(.ro false), 45, 1, r51.2.1, .w r51.1⟩]⟩) (by kernel_rfl) (allP_cons.2 ⟨g4, allP_nil⟩) ?_
          refine W_seq ?_
          obtain ⟨r57, g5, h⟩ := bind_some' h
          refine W_reg hT (ftL_cons (k := 2) (f := 26) (F := (pAdd_ct n r57)) (pAdd_ok n r57) (fun _ _ => True.intro) ftL_nil) [] [] [0, 1, 2, 7, 8, 9, 10, 11] [0, 1, 2, 3, 4] (s' := ⟨[(0, .c (.wh 0)), (1, .c (.wh 1)), (2, .c (.wh 2)), (7, .c (.s (.b r33))), (8, .c (.wh 3)), (9, .c (.s (.er 30 .i64 r51.2.2))), (10, .c (.wh 4)), (11, .c (.s (.er 30 .i64 r57.2.2)))], [], [⟨(.ro false), 45, 1, l0.length, .w l0⟩, ⟨(.ro false), 45, 1, l1.length, .w l1⟩, ⟨(.ro false), 45, 1, l2.length, .w l2⟩, ⟨(.ro false), 45, 1, r51.2.1, .w r51.1⟩, ⟨(.ro false), 45, 1, r57.2.1, .w r57.1⟩]⟩) (by kernel_rfl) (allP_cons.2 ⟨g5, allP_nil⟩) ?_
          refine W_seq ?_
          obtain ⟨r63, g6, h⟩ := bind_some' h
          refine W_reg hT (ftL_cons (k := 2) (f := 25) (F := (pMul_ct n r63)) (pMul_ok n r63) (fun _ _ => True.intro) ftL_nil) [] [] [0, 1, 2, 7, 8, 9, 10, 11, 12, 13] [0, 1, 2, 3, 4, 5] (s' := ⟨[(0, .c (.wh 0)), (1, .c (.wh 1)), (2, .c (.wh 2)), (7, .c (.s (.b r33))), (8, .c (.wh 3)), (9, .c (.s (.er 30 .i64 r51.2.2))), (10, .c (.wh 4)), (11, .c (.s (.er 30 .i64 r57.2.2))), (12, .c (.wh 5)), (13, .c (.s (.er 30 .i64 r63.2.2)))], [], [⟨(.ro false), 45, 1, l0.length, .w l0⟩, ⟨(.ro false), 45, 1, l1.length, .w l1⟩, ⟨(.ro false), 45, 1, l2.length, .w l2⟩, ⟨(.ro false), 45, 1, r51.2.1, .w r51.1⟩, ⟨(.ro false), 45, 1, r57.2.1, .w r57.1⟩, ⟨(.ro false), 45, 1, r63.2.1, .w r63.1⟩]⟩) (by kernel_rfl) (allP_cons.2 ⟨g6, allP_nil⟩) ?_
          refine W_seq ?_
          obtain ⟨r69, g7, h⟩ := bind_some' h
          refine W_reg hT (ftL_cons (k := 2) (f := 25) (F := (pMul_ct n r69)) (pMul_ok n r69) (fun _ _ => True.intro) ftL_nil) [] [] [0, 1, 2, 7, 8, 9, 10, 11, 12, 13, 14, 15] [0, 1, 2, 3, 4, 5, 6] (s' := ⟨[(0, .c (.wh 0)), (1, .c (.wh 1)), (2, .c (.wh 2)), (7, .c (.s (.b r33))), (8, .c (.wh 3)), (9, .c (.s (.er 30 .i64 r51.2.2))), (10, .c (.wh 4)), (11, .c (.s (.er 30 .i64 r57.2.2))), (12, .c (.wh 5)), (13, .c (.s (.er 30 .i64 r63.2.2))), (14, .c (.wh 6)), (15, .c (.s (.er 30 .i64 r69.2.2)))], [], [⟨(.ro false), 45, 1, l0.length, .w l0⟩, ⟨(.ro false), 45, 1, l1.length, .w l1⟩, ⟨(.ro false), 45, 1, l2.length, .w l2⟩, ⟨(.ro false), 45, 1, r51.2.1, .w r51.1⟩, ⟨(.ro false), 45, 1, r57.2.1, .w r57.1⟩, ⟨(.ro false), 45, 1, r63.2.1, .w r63.1⟩, ⟨(.ro false), 45, 1, r69.2.1, .w r69.1⟩]⟩) (by kernel_rfl) (allP_cons.2 ⟨g7, allP_nil⟩) ?_
          refine W_seq ?_
          obtain ⟨r75, g8, h⟩ := bind_some' h
          refine W_reg hT (ftL_cons (k := 2) (f := 25) (F := (pMul_ct n r75)) (pMul_ok n r75) (fun _ _ => True.intro) ftL_nil) [] [] [0, 1, 2, 7, 8, 9, 10, 11, 12, 13, 14, 15, 16, 17] [0, 1, 2, 3, 4, 5, 6, 7] (s' := ⟨[(0, .c (.wh 0)), (1, .c (.wh 1)), (2, .c (.wh 2)), (7, .c (.s (.b r33))), (8, .c (.wh 3)), (9, .c (.s (.er 30 .i64 r51.2.2))), (10, .c (.wh 4)), (11, .c (.s (.er 30 .i64 r57.2.2))), (12, .c (.wh 5)), (13, .c (.s (.er 30 .i64 r63.2.2))), (14, .c (.wh 6)), (15, .c (.s (.er 30 .i64 r69.2.2))), (16, .c (.wh 7)), (17, .c (.s (.er 30 .i64 r75.2.2)))], [], [⟨(.ro false), 45, 1, l0.length, .w l0⟩, ⟨(.ro false), 45, 1, l1.length, .w l1⟩, ⟨(.ro false), 45, 1, l2.length, .w l2⟩, ⟨(.ro false), 45, 1, r51.2.1, .w r51.1⟩, ⟨(.ro false), 45, 1, r57.2.1, .w r57.1⟩, ⟨(.ro false), 45, 1, r63.2.1, .w r63.1⟩, ⟨(.ro false), 45, 1, r69.2.1, .w r69.1⟩, ⟨(.ro false), 45, 1, r75.2.1, .w r75.1⟩]⟩) (by kernel_rfl) (allP_cons.2 ⟨g8, allP_nil⟩) ?_
          refine W_seq ?_
          obtain ⟨r81, g9, h⟩ := bind_some' h
          refine W_reg hT (ftL_cons (k := 2) (f := 25) (F := (pMul_ct n r81)) (pMul_ok n r81) (fun _ _ => True.intro) ftL_nil) [] [] [0, 1, 2, 7, 8, 9, 10, 11, 12, 13, 14, 15, 16, 17, 18, 19] [0, 1, 2, 3, 4, 5, 6, 7, 8] (s' := ⟨[(0, .c (.wh 0)), (1, .c (.wh 1)), (2, .c (.wh 2)), (7, .c (.s (.b r33))), (8, .c (.wh 3)), (9, .c (.s (.er 30 .i64 r51.2.2))), (10, .c (.wh 4)), (11, .c (.s (.er 30 .i64 r57.2.2))), (12, .c (.wh 5)), (13, .c (.s (.er 30 .i64 r63.2.2))), (14, .c (.wh 6)), (15, .c (.s (.er 30 .i64 r69.2.2))), (16, .c (.wh 7)), (17, .c (.s (.er 30 .i64 r75.2.2))), (18, .c (.wh 8)), (19, .c (.s (.er 30 .i64 r81.2.2)))], [], [⟨(.ro false), 45, 1, l0.length, .w l0⟩, ⟨(.ro false), 45, 1, l1.length, .w l1⟩, ⟨(.ro false), 45, 1, l2.length, .w l2⟩, ⟨(.ro false), 45, 1, r51.2.1, .w r51.1⟩, ⟨(.ro false), 45, 1, r57.2.1, .w r57.1⟩, ⟨(.ro false), 45, 1, r63.2.1, .w r63.1⟩, ⟨(.ro false), 45, 1, r69.2.1, .w r69.1⟩, ⟨(.ro false), 45, 1, r75.2.1, .w r75.1⟩, ⟨(.ro false), 45, 1, r81.2.1, .w r81.1⟩]⟩) (by kernel_rfl) (allP_cons.2 ⟨g9, allP_nil⟩) ?_
          refine W_seq ?_
          obtain ⟨r87, g10, h⟩ := bind_some' h
          refine W_reg hT (ftL_cons (k := 2) (f := 25) (F := (pMul_ct n r87)) (pMul_ok n r87) (fun _ _ => True.intro) ftL_nil) [] [] [0, 1, 2, 7, 8, 9, 10, 11, 12, 13, 14, 15, 16, 17, 18, 19, 20, 21] [0, 1, 2, 3, 4, 5, 6, 7, 8, 9] (s' := ⟨[(0, .c (.wh 0)), (1, .c (.wh 1)), (2, .c (.wh 2)), (7, .c (.s (.b r33))), (8, .c (.wh 3)), (9, .c (.s (.er 30 .i64 r51.2.2))), (10, .c (.wh 4)), (11, .c (.s (.er 30 .i64 r57.2.2))), (12, .c (.wh 5)), (13, .c (.s (.er 30 .i64 r63.2.2))), (14, .c (.wh 6)), (15, .c (.s (.er 30 .i64 r69.2.2))), (16, .c (.wh 7)), (17, .c (.s (.er 30 .i64 r75.2.2))), (18, .c (.wh 8)), (19, .c (.s (.er 30 .i64 r81.2.2))), (20, .c (.wh 9)), (21, .c (.s (.er 30 .i64 r87.2.2)))], [], [⟨(.ro false), 45, 1, l0.length, .w l0⟩, ⟨(.ro false), 45, 1, l1.length, .w l1⟩, ⟨(.ro false), 45, 1, l2.length, .w l2⟩, ⟨(.ro false), 45, 1, r51.2.1, .w r51.1⟩, ⟨(.ro false), 45, 1, r57.2.1, .w r57.1⟩, ⟨(.ro false), 45, 1, r63.2.1, .w r63.1⟩, ⟨(.ro false), 45, 1, r69.2.1, .w r69.1⟩, ⟨(.ro false), 45, 1, r75.2.1, .w r75.1⟩, ⟨(.ro false), 45, 1, r81.2.1, .w r81.1⟩, ⟨(.ro false), 45, 1, r87.2.1, .w r87.1⟩]⟩) (by kernel_rfl) (allP_cons.2 ⟨g10, allP_nil⟩) ?_
          refine W_seq ?_
          obtain ⟨r93, g11, h⟩ := bind_some' h
          refine W_reg hT (ftL_cons (k := 2) (f := 26) (F := (pAdd_ct n r93)) (pAdd_ok n r93) (fun _ _ => True.intro) ftL_nil) [] [] [0, 1, 2, 7, 8, 9, 10, 11, 12, 13, 14, 15, 16, 17, 19, 21, 22, 23] [0, 1, 2, 3, 4, 5, 6, 7, 10] (s' := ⟨[(0, .c (.wh 0)), (1, .c (.wh 1)), (2, .c (.wh 2)), (7, .c (.s (.b r33))), (8, .c (.wh 3)), (9, .c (.s (.er 30 .i64 r51.2.2))), (10, .c (.wh 4)), (11, .c (.s (.er 30 .i64 r57.2.2))), (12, .c (.wh 5)), (13, .c (.s (.er 30 .i64 r63.2.2))), (14, .c (.wh 6)), (15, .c (.s (.er 30 .i64 r69.2.2))), (16, .c (.wh 7)), (17, .c (.s (.er 30 .i64 r75.2.2))), (19, .c (.s (.er 30 .i64 r81.2.2))), (21, .c (.s (.er 30 .i64 r87.2.2))), (22, .c (.wh 8)), (23, .c (.s (.er 30 .i64 r93.2.2)))], [], [⟨(.ro false), 45, 1, l0.length, .w l0⟩, ⟨(.ro false), 45, 1, l1.length, .w l1⟩, ⟨(.ro false), 45, 1, l2.length, .w l2⟩, ⟨(.ro false), 45, 1, r51.2.1, .w r51.1⟩, ⟨(.ro false), 45, 1, r57.2.1, .w r57.1⟩, ⟨(.ro false), 45, 1, r63.2.1, .w r63.1⟩, ⟨(.ro false), 45, 1, r69.2.1, .w r69.1⟩, ⟨(.ro false), 45, 1, r75.2.1, .w r75.1⟩, ⟨(.ro false), 45, 1, r93.2.1, .w r93.1⟩]⟩) (by kernel_rfl) (allP_cons.2 ⟨g11, allP_nil⟩) ?_
          refine W_seq ?_
          obtain ⟨r99, g12, h⟩ := bind_some' h
          refine W_reg hT (ftL_cons (k := 2) (f := 27) (F := (pSub_ct n r99)) (pSub_ok n r99) (fun _ _ => True.intro) ftL_nil) [] [] [0, 2, 7, 8, 9, 10, 11, 12, 13, 14, 15, 16, 17, 19, 21, 22, 23, 24, 25] [0, 2, 3, 4, 5, 6, 7, 8, 9] (s' := ⟨[(0, .c (.wh 0)), (2, .c (.wh 1)), (7, .c (.s (.b r33))), (8, .c (.wh 2)), (9, .c (.s (.er 30 .i64 r51.2.2))), (10, .c (.wh 3)), (11, .c (.s (.er 30 .i64 r57.2.2))), (12, .c (.wh 4)), (13, .c (.s (.er 30 .i64 r63.2.2))), (14, .c (.wh 5)), (15, .c (.s (.er 30 .i64 r69.2.2))), (16, .c (.wh 6)), (17, .c (.s (.er 30 .i64 r75.2.2))), (19, .c (.s (.er 30 .i64 r81.2.2))), (21, .c (.s (.er 30 .i64 r87.2.2))), (22, .c (.wh 7)), (23, .c (.s (.er 30 .i64 r93.2.2))), (24, .c (.wh 8)), (25, .c (.s (.er 30 .i64 r99.2.2)))], [], [⟨(.ro false), 45, 1, l0.length, .w l0⟩, ⟨(.ro false), 45, 1, l2.length, .w l2⟩, ⟨(.ro false), 45, 1, r51.2.1, .w r51.1⟩, ⟨(.ro false), 45, 1, r57.2.1, .w r57.1⟩, ⟨(.ro false), 45, 1, r63.2.1, .w r63.1⟩, ⟨(.ro false), 45, 1, r69.2.1, .w r69.1⟩, ⟨(.ro false), 45, 1, r75.2.1, .w r75.1⟩, ⟨(.ro false), 45, 1, r93.2.1, .w r93.1⟩, ⟨(.ro false), 45, 1, r99.2.1, .w r99.1⟩]⟩) (by kernel_rfl) (allP_cons.2 ⟨g12, allP_nil⟩) ?_
          refine W_seq ?_
          refine W_seq ?_
          rcases Bool.eq_false_or_eq_true (!((r51.2.2).isNone)) with g13 | g13
          · replace h := bif_t h g13
            refine W_reg hT ftL_nil [(2, true)] [] [0, 2, 7, 8, 10, 12, 14, 16, 22, 24, 135] [0, 1, 2, 3, 4, 5, 6, 7, 8] (s' := ⟨[(0, .c (.wh 0)), (2, .c (.wh 1)), (7, .c (.s (.b r33))), (8, .c (.wh 2)), (10, .c (.wh 3)), (12, .c (.wh 4)), (14, .c (.wh 5)), (16, .c (.wh 6)), (22, .c (.wh 7)), (24, .c (.wh 8)), (135, .c (.s (.b true)))], [], [⟨(.ro false), 45, 1, l0.length, .w l0⟩, ⟨(.ro false), 45, 1, l2.length, .w l2⟩, ⟨(.ro false), 45, 1, r51.2.1, .w r51.1⟩, ⟨(.ro false), 45, 1, r57.2.1, .w r57.1⟩, ⟨(.ro false), 45, 1, r63.2.1, .w r63.1⟩, ⟨(.ro false), 45, 1, r69.2.1, .w r69.1⟩, ⟨(.ro false), 45, 1, r75.2.1, .w r75.1⟩, ⟨(.ro false), 45, 1, r93.2.1, .w r93.1⟩, ⟨(.ro false), 45, 1, r99.2.1, .w r99.1⟩]⟩) (by kernel_rfl) (allP_cons.2 ⟨g13, allP_nil⟩) ?_
            refine W_cond (b := true) (by kernel_rfl) (fun _ => ?_) (fun hb => by cases hb)
            refine W_seq ?_
            refine W_reg hT ftL_nil [] [] [6] [] (s' := ⟨[(6, .c (.s (.b false)))], [], []⟩) (by kernel_rfl) allP_nil ?_
            refine W_co [] [6] [] (s' := (lRing_R false)) (by kernel_rfl) (W_ret ?_)
            exact ⟨.inl rfl, by cases h; rfl⟩
          · replace h := bif_f h g13
            rcases Bool.eq_false_or_eq_true (!((r57.2.2).isNone)) with g14 | g14
            · replace h := bif_t h g14
              refine W_reg hT ftL_nil [(2, false), (6, true)] [] [0, 2, 7, 8, 10, 12, 14, 16, 22, 24, 135] [0, 1, 2, 3, 4, 5, 6, 7, 8] (s' := ⟨[(0, .c (.wh 0)), (2, .c (.wh 1)), (7, .c (.s (.b r33))), (8, .c (.wh 2)), (10, .c (.wh 3)), (12, .c (.wh 4)), (14, .c (.wh 5)), (16, .c (.wh 6)), (22, .c (.wh 7)), (24, .c (.wh 8)), (135, .c (.s (.b true)))], [], [⟨(.ro false), 45, 1, l0.length, .w l0⟩, ⟨(.ro false), 45, 1, l2.length, .w l2⟩, ⟨(.ro false), 45, 1, r51.2.1, .w r51.1⟩, ⟨(.ro false), 45, 1, r57.2.1, .w r57.1⟩, ⟨(.ro false), 45, 1, r63.2.1, .w r63.1⟩, ⟨(.ro false), 45, 1, r69.2.1, .w r69.1⟩, ⟨(.ro false), 45, 1, r75.2.1, .w r75.1⟩, ⟨(.ro false), 45, 1, r93.2.1, .w r93.1⟩, ⟨(.ro false), 45, 1, r99.2.1, .w r99.1⟩]⟩) (by kernel_rfl) (allP_cons.2 ⟨g13, (allP_cons.2 ⟨g14, allP_nil⟩)⟩) ?_
              refine W_cond (b := true) (by kernel_rfl) (fun _ => ?_) (fun hb => by cases hb)
              refine W_seq ?_
              refine W_reg hT ftL_nil [] [] [6] [] (s' := ⟨[(6, .c (.s (.b false)))], [], []⟩) (by kernel_rfl) allP_nil ?_
              refine W_co [] [6] [] (s' := (lRing_R false)) (by kernel_rfl) (W_ret ?_)
              exact ⟨.inl rfl, by cases h; rfl⟩
            · replace h := bif_f h g14
              rcases Bool.eq_false_or_eq_true (!((r63.2.2).isNone)) with g15 | g15
              · replace h := bif_t h g15
                refine W_reg hT ftL_nil [(2, false), (6, false), (10, true)] [] [0, 2, 7, 8, 10, 12, 14, 16, 22, 24, 135] [0, 1, 2, 3, 4, 5, 6, 7, 8] (s' := ⟨[(0, .c (.wh 0)), (2, .c (.wh 1)), (7, .c (.s (.b r33))), (8, .c (.wh 2)), (10, .c (.wh 3)), (12, .c (.wh 4)), (14, .c (.wh 5)), (16, .c (.wh 6)), (22, .c (.wh 7)), (24, .c (.wh 8)), (135, .c (.s (.b true)))], [], [⟨(.ro false), 45, 1, l0.length, .w l0⟩, ⟨(.ro false), 45, 1, l2.length, .w l2⟩, ⟨(.ro false), 45, 1, r51.2.1, .w r51.1⟩, ⟨(.ro false), 45, 1, r57.2.1, .w r57.1⟩, ⟨(.ro false), 45, 1, r63.2.1, .w r63.1⟩, ⟨(.ro false), 45, 1, r69.2.1, .w r69.1⟩, ⟨(.ro false), 45, 1, r75.2.1, .w r75.1⟩, ⟨(.ro false), 45, 1, r93.2.1, .w r93.1⟩, ⟨(.ro false), 45, 1, r99.2.1, .w r99.1⟩]⟩) (by kernel_rfl) (allP_cons.2 ⟨g13, (allP_cons.2 ⟨g14, (allP_cons.2 ⟨g15, allP_nil⟩)⟩)⟩) ?_
                refine W_cond (b := true) (by kernel_rfl) (fun _ => ?_) (fun hb => by cases hb)
                refine W_seq ?_
                refine W_reg hT ftL_nil [] [] [6] [] (s' := ⟨[(6, .c (.s (.b false)))], [], []⟩) (by kernel_rfl) allP_nil ?_
                refine W_co [] [6] [] (s' := (lRing_R false)) (by kernel_rfl) (W_ret ?_)
                exact ⟨.inl rfl, by cases h; rfl⟩
              · replace h := bif_f h g15
                rcases Bool.eq_false_or_eq_true (!((r69.2.2).isNone)) with g16 | g16
                · replace h := bif_t h g16
                  refine W_reg hT ftL_nil [(2, false), (6, false), (10, false), (14, true)] [] [0, 2, 7, 8, 10, 12, 14, 16, 22, 24, 135] [0, 1, 2, 3, 4, 5, 6, 7, 8] (s' := ⟨[(0, .c (.wh 0)), (2, .c (.wh 1)), (7, .c (.s (.b r33))), (8, .c (.wh 2)), (10, .c (.wh 3)), (12, .c (.wh 4)), (14, .c (.wh 5)), (16, .c (.wh 6)), (22, .c (.wh 7)), (24, .c (.wh 8)), (135, .c (.s (.b true)))], [], [⟨(.ro false), 45, 1, l0.length, .w l0⟩, ⟨(.ro false), 45, 1, l2.length, .w l2⟩, ⟨(.ro false), 45, 1, r51.2.1, .w r51.1⟩, ⟨(.ro false), 45, 1, r57.2.1, .w r57.1⟩, ⟨(.ro false), 45, 1, r63.2.1, .w r63.1⟩, ⟨(.ro false), 45, 1, r69.2.1, .w r69.1⟩, ⟨(.ro false), 45, 1, r75.2.1, .w r75.1⟩, ⟨(.ro false), 45, 1, r93.2.1, .w r93.1⟩, ⟨(.ro false), 45, 1, r99.2.1, .w r99.1⟩]⟩) (by kernel_rfl) (allP_cons.2 ⟨g13, (allP_cons.2 ⟨g14, (allP_cons.2 ⟨g15, (allP_cons.2 ⟨g16, allP_nil⟩)⟩)⟩)⟩) ?_
                  refine W_cond (b := true) (by kernel_rfl) (fun _ => ?_) (fun hb => by cases hb)
                  refine W_seq ?_
                  refine W_reg hT ftL_nil [] [] [6] [] (s' := ⟨[(6, .c (.s (.b false)))], [], []⟩) (by kernel_rfl) allP_nil ?_
                  refine W_co [] [6] [] (s' := (lRing_R false)) (by kernel_rfl) (W_ret ?_)
                  exact ⟨.inl rfl, by cases h; rfl⟩
                · replace h := bif_f h g16
                  rcases Bool.eq_false_or_eq_true (!((r75.2.2).isNone)) with g17 | g17
                  · replace h := bif_t h g17
                    refine W_reg hT ftL_nil [(2, false), (6, false), (10, false), (14, false), (18, true)] [] [0, 2, 7, 8, 10, 12, 14, 16, 22, 24, 135] [0, 1, 2, 3, 4, 5, 6, 7, 8] (s' := ⟨[(0, .c (.wh 0)), (2, .c (.wh 1)), (7, .c (.s (.b r33))), (8, .c (.wh 2)), (10, .c (.wh 3)), (12, .c (.wh 4)), (14, .c (.wh 5)), (16, .c (.wh 6)), (22, .c (.wh 7)), (24, .c (.wh 8)), (135, .c (.s (.b true)))], [], [⟨(.ro false), 45, 1, l0.length, .w l0⟩, ⟨(.ro false), 45, 1, l2.length, .w l2⟩, ⟨(.ro false), 45, 1, r51.2.1, .w r51.1⟩, ⟨(.ro false), 45, 1, r57.2.1, .w r57.1⟩, ⟨(.ro false), 45, 1, r63.2.1, .w r63.1⟩, ⟨(.ro false), 45, 1, r69.2.1, .w r69.1⟩, ⟨(.ro false), 45, 1, r75.2.1, .w r75.1⟩, ⟨(.ro false), 45, 1, r93.2.1, .w r93.1⟩, ⟨(.ro false), 45, 1, r99.2.1, .w r99.1⟩]⟩) (by kernel_rfl) (allP_cons.2 ⟨g13, (allP_cons.2 ⟨g14, (allP_cons.2 ⟨g15, (allP_cons.2 ⟨g16, (allP_cons.2 ⟨g17, allP_nil⟩)⟩)⟩)⟩)⟩) ?_
                    refine W_cond (b := true) (by kernel_rfl) (fun _ => ?_) (fun hb => by cases hb)
                    refine W_seq ?_
                    refine W_reg hT ftL_nil [] [] [6] [] (s' := ⟨[(6, .c (.s (.b false)))], [], []⟩) (by kernel_rfl) allP_nil ?_
                    refine W_co [] [6] [] (s' := (lRing_R false)) (by kernel_rfl) (W_ret ?_)
                    exact ⟨.inl rfl, by cases h; rfl⟩
                  · replace h := bif_f h g17
                    rcases Bool.eq_false_or_eq_true (!((r81.2.2).isNone)) with g18 | g18
                    · replace h := bif_t h g18
                      refine W_reg hT ftL_nil [(2, false), (6, false), (10, false), (14, false), (18, false), (22, true)] [] [0, 2, 7, 8, 10, 12, 14, 16, 22, 24, 135] [0, 1, 2, 3, 4, 5, 6, 7, 8] (s' := ⟨[(0, .c (.wh 0)), (2, .c (.wh 1)), (7, .c (.s (.b r33))), (8, .c (.wh 2)), (10, .c (.wh 3)), (12, .c (.wh 4)), (14, .c (.wh 5)), (16, .c (.wh 6)), (22, .c (.wh 7)), (24, .c (.wh 8)), (135, .c (.s (.b true)))], [], [⟨(.ro false), 45, 1, l0.length, .w l0⟩, ⟨(.ro false), 45, 1, l2.length, .w l2⟩, ⟨(.ro false), 45, 1, r51.2.1, .w r51.1⟩, ⟨(.ro false), 45, 1, r57.2.1, .w r57.1⟩, ⟨(.ro false), 45, 1, r63.2.1, .w r63.1⟩, ⟨(.ro false), 45, 1, r69.2.1, .w r69.1⟩, ⟨(.ro false), 45, 1, r75.2.1, .w r75.1⟩, ⟨(.ro false), 45, 1, r93.2.1, .w r93.1⟩, ⟨(.ro false), 45, 1, r99.2.1, .w r99.1⟩]⟩) (by kernel_rfl) (allP_cons.2 ⟨g13, (allP_cons.2 ⟨g14, (allP_cons.2 ⟨g15, (allP_cons.2 ⟨g16, (allP_cons.2 ⟨g17, (allP_cons.2 ⟨g18, allP_nil⟩)⟩)⟩)⟩)⟩)⟩) ?_
                      refine W_cond (b := true) (by kernel_rfl) (fun _ => ?_) (fun hb => by cases hb)
                      refine W_seq ?_
                      refine W_reg hT ftL_nil [] [] [6] [] (s' := ⟨[(6, .c (.s (.b false)))], [], []⟩) (by kernel_rfl) allP_nil ?_
                      refine W_co [] [6] [] (s' := (lRing_R false)) (by kernel_rfl) (W_ret ?_)
                      exact ⟨.inl rfl, by cases h; rfl⟩
                    · replace h := bif_f h g18
                      rcases Bool.eq_false_or_eq_true (!((r87.2.2).isNone)) with g19 | g19
                      · replace h := bif_t h g19
                        refine W_reg hT ftL_nil [(2, false), (6, false), (10, false), (14, false), (18, false), (22, false), (26, true)] [] [0, 2, 7, 8, 10, 12, 14, 16, 22, 24, 135] [0, 1, 2, 3, 4, 5, 6, 7, 8] (s' := ⟨[(0, .c (.wh 0)), (2, .c (.wh 1)), (7, .c (.s (.b r33))), (8, .c (.wh 2)), (10, .c (.wh 3)), (12, .c (.wh 4)), (14, .c (.wh 5)), (16, .c (.wh 6)), (22, .c (.wh 7)), (24, .c (.wh 8)), (135, .c (.s (.b true)))], [], [⟨(.ro false), 45, 1, l0.length, .w l0⟩, ⟨(.ro false), 45, 1, l2.length, .w l2⟩, ⟨(.ro false), 45, 1, r51.2.1, .w r51.1⟩, ⟨(.ro false), 45, 1, r57.2.1, .w r57.1⟩, ⟨(.ro false), 45, 1, r63.2.1, .w r63.1⟩, ⟨(.ro false), 45, 1, r69.2.1, .w r69.1⟩, ⟨(.ro false), 45, 1, r75.2.1, .w r75.1⟩, ⟨(.ro false), 45, 1, r93.2.1, .w r93.1⟩, ⟨(.ro false), 45, 1, r99.2.1, .w r99.1⟩]⟩) (by kernel_rfl) (allP_cons.2 ⟨g13, (allP_cons.2 ⟨g14, (allP_cons.2 ⟨g15, (allP_cons.2 ⟨g16, (allP_cons.2 ⟨g17, (allP_cons.2 ⟨g18, (allP_cons.2 ⟨g19, allP_nil⟩)⟩)⟩)⟩)⟩)⟩)⟩) ?_
                        refine W_cond (b := true) (by kernel_rfl) (fun _ => ?_) (fun hb => by cases hb)
                        refine W_seq ?_
                        refine W_reg hT ftL_nil [] [] [6] [] (s' := ⟨[(6, .c (.s (.b false)))], [], []⟩) (by kernel_rfl) allP_nil ?_
                        refine W_co [] [6] [] (s' := (lRing_R false)) (by kernel_rfl) (W_ret ?_)
                        exact ⟨.inl rfl, by cases h; rfl⟩
                      · replace h := bif_f h g19
                        rcases Bool.eq_false_or_eq_true (!((r93.2.2).isNone)) with g20 | g20
                        · replace h := bif_t h g20
                          refine W_reg hT ftL_nil [(2, false), (6, false), (10, false), (14, false), (18, false), (22, false), (26, false), (30, true)] [] [0, 2, 7, 8, 10, 12, 14, 16, 22, 24, 135] [0, 1, 2, 3, 4, 5, 6, 7, 8] (s' := ⟨[(0, .c (.wh 0)), (2, .c (.wh 1)), (7, .c (.s (.b r33))), (8, .c (.wh 2)), (10, .c (.wh 3)), (12, .c (.wh 4)), (14, .c (.wh 5)), (16, .c (.wh 6)), (22, .c (.wh 7)), (24, .c (.wh 8)), (135, .c (.s (.b true)))], [], [⟨(.ro false), 45, 1, l0.length, .w l0⟩, ⟨(.ro false), 45, 1, l2.length, .w l2⟩, ⟨(.ro false), 45, 1, r51.2.1, .w r51.1⟩, ⟨(.ro false), 45, 1, r57.2.1, .w r57.1⟩, ⟨(.ro false), 45, 1, r63.2.1, .w r63.1⟩, ⟨(.ro false), 45, 1, r69.2.1, .w r69.1⟩, ⟨(.ro false), 45, 1, r75.2.1, .w r75.1⟩, ⟨(.ro false), 45, 1, r93.2.1, .w r93.1⟩, ⟨(.ro false), 45, 1, r99.2.1, .w r99.1⟩]⟩) (by kernel_rfl) (allP_cons.2 ⟨g13, (allP_cons.2 ⟨g14, (allP_cons.2 ⟨g15, (allP_cons.2 ⟨g16, (allP_cons.2 ⟨g17, (allP_cons.2 ⟨g18, (allP_cons.2 ⟨g19, (allP_cons.2 ⟨g20, allP_nil⟩)⟩)⟩)⟩)⟩)⟩)⟩)⟩) ?_
                          refine W_cond (b := true) (by kernel_rfl) (fun _ => ?_) (fun hb => by cases hb)
                          refine W_seq ?_
                          refine W_reg hT ftL_nil [] [] [6] [] (s' := ⟨[(6, .c (.s (.b false)))], [], []⟩) (by kernel_rfl) allP_nil ?_
                          refine W_co [] [6] [] (s' := (lRing_R false)) (by kernel_rfl) (W_ret ?_)
                          exact ⟨.inl rfl, by cases h; rfl⟩
                        · replace h := bif_f h g20
                          refine W_reg hT ftL_nil [(2, false), (6, false), (10, false), (14, false), (18, false), (22, false), (26, false), (30, false)] [] [0, 2, 7, 8, 10, 12, 14, 16, 22, 24, 135] [0, 1, 2, 3, 4, 5, 6, 7, 8] (s' := ⟨[(0, .c (.wh 0)), (2, .c (.wh 1)), (7, .c (.s (.b r33))), (8, .c (.wh 2)), (10, .c (.wh 3)), (12, .c (.wh 4)), (14, .c (.wh 5)), (16, .c (.wh 6)), (22, .c (.wh 7)), (24, .c (.wh 8)), (135, .c (.s (.b (!((r99.2.2).isNone)))))], [], [⟨(.ro false), 45, 1, l0.length, .w l0⟩, ⟨(.ro false), 45, 1, l2.length, .w l2⟩, ⟨(.ro false), 45, 1, r51.2.1, .w r51.1⟩, ⟨(.ro false), 45, 1, r57.2.1, .w r57.1⟩, ⟨(.ro false), 45, 1, r63.2.1, .w r63.1⟩, ⟨(.ro false), 45, 1, r69.2.1, .w r69.1⟩, ⟨(.ro false), 45, 1, r75.2.1, .w r75.1⟩, ⟨(.ro false), 45, 1, r93.2.1, .w r93.1⟩, ⟨(.ro false), 45, 1, r99.2.1, .w r99.1⟩]⟩) (by kernel_rfl) (allP_cons.2 ⟨g13, (allP_cons.2 ⟨g14, (allP_cons.2 ⟨g15, (allP_cons.2 ⟨g16, (allP_cons.2 ⟨g17, (allP_cons.2 ⟨g18, (allP_cons.2 ⟨g19, (allP_cons.2 ⟨g20, allP_nil⟩)⟩)⟩)⟩)⟩)⟩)⟩)⟩) ?_
                          refine W_cond (b := (!((r99.2.2).isNone))) (by kernel_rfl) (fun g43 => ?_) (fun g43 => ?_)
                          · replace h := bif_t h g43
                            refine W_seq ?_
                            refine W_reg hT ftL_nil [] [] [6] [] (s' := ⟨[(6, .c (.s (.b false)))], [], []⟩) (by kernel_rfl) allP_nil ?_
                            refine W_co [] [6] [] (s' := (lRing_R false)) (by kernel_rfl) (W_ret ?_)
                            exact ⟨.inl rfl, by cases h; rfl⟩
                          · replace h := bif_f h g43
                            refine W_co [] [0, 2, 7, 8, 10, 12, 14, 16, 22, 24] [0, 1, 2, 3, 4, 5, 6, 7, 8] (s' := ⟨[(0, .c (.wh 0)), (2, .c (.wh 1)), (7, .c (.s (.b r33))), (8, .c (.wh 2)), (10, .c (.wh 3)), (12, .c (.wh 4)), (14, .c (.wh 5)), (16, .c (.wh 6)), (22, .c (.wh 7)), (24, .c (.wh 8))], [], [⟨(.ro false), 45, 1, l0.length, .w l0⟩, ⟨(.ro false), 45, 1, l2.length, .w l2⟩, ⟨(.ro false), 45, 1, r51.2.1, .w r51.1⟩, ⟨(.ro false), 45, 1, r57.2.1, .w r57.1⟩, ⟨(.ro false), 45, 1, r63.2.1, .w r63.1⟩, ⟨(.ro false), 45, 1, r69.2.1, .w r69.1⟩, ⟨(.ro false), 45, 1, r75.2.1, .w r75.1⟩, ⟨(.ro false), 45, 1, r93.2.1, .w r93.1⟩, ⟨(.ro false), 45, 1, r99.2.1, .w r99.1⟩]⟩) (by kernel_rfl) (W_skip ?_)
                            refine W_seq ?_
                            refine W_seq ?_
                            obtain ⟨r138, g21, h⟩ := bind_some' h
                            rcases Bool.eq_false_or_eq_true (r138 != 0) with g22 | g22
                            · replace h := bif_t h g22
                              refine W_reg hT (ftL_cons (k := 2) (f := 31) (F := (pCmp_ct n r138)) (pCmp_ok n r138) (fun _ _ => True.intro) ftL_nil) [(4, true)] [] [2, 7, 12, 157] [1, 4] (s' := ⟨[(2, .c (.wh 0)), (7, .c (.s (.b r33))), (12, .c (.wh 1)), (157, .c (.s (.b true)))], [], [⟨(.ro false), 45, 1, l2.length, .w l2⟩, ⟨(.ro false), 45, 1, r63.2.1, .w r63.1⟩]⟩) (by kernel_rfl) (allP_cons.2 ⟨g21, (allP_cons.2 ⟨g22, allP_nil⟩)⟩) ?_
                              refine W_cond (b := true) (by kernel_rfl) (fun _ => ?_) (fun hb => by cases hb)
                              refine W_seq ?_
                              refine W_reg hT ftL_nil [] [] [6] [] (s' := ⟨[(6, .c (.s (.b false)))], [], []⟩) (by kernel_rfl) allP_nil ?_
                              refine W_co [] [6] [] (s' := (lRing_R false)) (by kernel_rfl) (W_ret ?_)
                              exact ⟨.inl rfl, by cases h; rfl⟩
                            · replace h := bif_f h g22
                              obtain ⟨r143, g23, h⟩ := bind_some' h
                              rcases Bool.eq_false_or_eq_true (r143 != 0) with g24 | g24
                              · replace h := bif_t h g24
                                refine W_reg hT (ftL_cons (k := 2) (f := 31) (F := (pCmp_ct n r138)) (pCmp_ok n r138) (fun _ _ => True.intro) (ftL_cons (k := 7) (f := 31) (F := (pCmp_ct n r143)) (pCmp_ok n r143) (fun _ _ => True.intro) ftL_nil)) [(4, false), (10, true)] [] [2, 7, 12, 157] [1, 4] (s' := ⟨[(2, .c (.wh 0)), (7, .c (.s (.b r33))), (12, .c (.wh 1)), (157, .c (.s (.b true)))], [], [⟨(.ro false), 45, 1, l2.length, .w l2⟩, ⟨(.ro false), 45, 1, r63.2.1, .w r63.1⟩]⟩) (by kernel_rfl) (allP_cons.2 ⟨g21, (allP_cons.2 ⟨g22, (allP_cons.2 ⟨g23, (allP_cons.2 ⟨g24, allP_nil⟩)⟩)⟩)⟩) ?_
                                refine W_cond (b := true) (by kernel_rfl) (fun _ => ?_) (fun hb => by cases hb)
                                refine W_seq ?_
                                refine W_reg hT ftL_nil [] [] [6] [] (s' := ⟨[(6, .c (.s (.b false)))], [], []⟩) (by kernel_rfl) allP_nil ?_
                                refine W_co [] [6] [] (s' := (lRing_R false)) (by kernel_rfl) (W_ret ?_)
                                exact ⟨.inl rfl, by cases h; rfl⟩
                              · replace h := bif_f h g24
                                obtain ⟨r149, g25, h⟩ := bind_some' h
                                rcases Bool.eq_false_or_eq_true (r149 != 0) with g26 | g26
                                · replace h := bif_t h g26
                                  refine W_reg hT (ftL_cons (k := 2) (f := 31) (F := (pCmp_ct n r138)) (pCmp_ok n r138) (fun _ _ => True.intro) (ftL_cons (k := 7) (f := 31) (F := (pCmp_ct n r143)) (pCmp_ok n r143) (fun _ _ => True.intro) (ftL_cons (k := 13) (f := 31) (F := (pCmp_ct n r149)) (pCmp_ok n r149) (fun _ _ => True.intro) ftL_nil))) [(4, false), (10, false), (16, true)] [] [2, 7, 12, 157] [1, 4] (s' := ⟨[(2, .c (.wh 0)), (7, .c (.s (.b r33))), (12, .c (.wh 1)), (157, .c (.s (.b true)))], [], [⟨(.ro false), 45, 1, l2.length, .w l2⟩, ⟨(.ro false), 45, 1, r63.2.1, .w r63.1⟩]⟩) (by kernel_rfl) (allP_cons.2 ⟨g21, (allP_cons.2 ⟨g22, (allP_cons.2 ⟨g23, (allP_cons.2 ⟨g24, (allP_cons.2 ⟨g25, (allP_cons.2 ⟨g26, allP_nil⟩)⟩)⟩)⟩)⟩)⟩) ?_
                                  refine W_cond (b := true) (by kernel_rfl) (fun _ => ?_) (fun hb => by cases hb)
                                  refine W_seq ?_
                                  refine W_reg hT ftL_nil [] [] [6] [] (s' := ⟨[(6, .c (.s (.b false)))], [], []⟩) (by kernel_rfl) allP_nil ?_
                                  refine W_co [] [6] [] (s' := (lRing_R false)) (by kernel_rfl) (W_ret ?_)
                                  exact ⟨.inl rfl, by cases h; rfl⟩
                                · replace h := bif_f h g26
                                  obtain ⟨r155, g27, h⟩ := bind_some' h
                                  refine W_reg hT (ftL_cons (k := 2) (f := 31) (F := (pCmp_ct n r138)) (pCmp_ok n r138) (fun _ _ => True.intro) (ftL_cons (k := 7) (f := 31) (F := (pCmp_ct n r143)) (pCmp_ok n r143) (fun _ _ => True.intro) (ftL_cons (k := 13) (f := 31) (F := (pCmp_ct n r149)) (pCmp_ok n r149) (fun _ _ => True.intro) (ftL_cons (k := 19) (f := 31) (F := (pCmp_ct n r155)) (pCmp_ok n r155) (fun _ _ => True.intro) ftL_nil)))) [(4, false), (10, false), (16, false)] [] [2, 7, 12, 157] [1, 4] (s' := ⟨[(2, .c (.wh 0)), (7, .c (.s (.b r33))), (12, .c (.wh 1)), (157, .c (.s (.b (r155 != 0))))], [], [⟨(.ro false), 45, 1, l2.length, .w l2⟩, ⟨(.ro false), 45, 1, r63.2.1, .w r63.1⟩]⟩) (by kernel_rfl) (allP_cons.2 ⟨g21, (allP_cons.2 ⟨g22, (allP_cons.2 ⟨g23, (allP_cons.2 ⟨g24, (allP_cons.2 ⟨g25, (allP_cons.2 ⟨g26, (allP_cons.2 ⟨g27, allP_nil⟩)⟩)⟩)⟩)⟩)⟩)⟩) ?_
                                  refine W_cond (b := (r155 != 0)) (by kernel_rfl) (fun g42 => ?_) (fun g42 => ?_)
                                  · replace h := bif_t h g42
                                    refine W_seq ?_
                                    refine W_reg hT ftL_nil [] [] [6] [] (s' := ⟨[(6, .c (.s (.b false)))], [], []⟩) (by kernel_rfl) allP_nil ?_
                                    refine W_co [] [6] [] (s' := (lRing_R false)) (by kernel_rfl) (W_ret ?_)
                                    exact ⟨.inl rfl, by cases h; rfl⟩
                                  · replace h := bif_f h g42
                                    refine W_co [] [2, 7, 12] [0, 1] (s' := ⟨[(2, .c (.wh 0)), (7, .c (.s (.b r33))), (12, .c (.wh 1))], [], [⟨(.ro false), 45, 1, l2.length, .w l2⟩, ⟨(.ro false), 45, 1, r63.2.1, .w r63.1⟩]⟩) (by kernel_rfl) (W_skip ?_)
                                    refine W_seq ?_
                                    obtain ⟨r161, g28, h⟩ := bind_some' h
                                    refine W_reg hT (ftL_cons (k := 2) (f := 13) (F := (pDiv_ct n r161)) (pDiv_ok n r161) (fun _ _ => True.intro) ftL_nil) [] [] [2, 7, 12, 26, 27, 28] [0, 1, 2, 3] (s' := ⟨[(2, .c (.wh 0)), (7, .c (.s (.b r33))), (12, .c (.wh 1)), (26, .c (.wh 2)), (27, .c (.wh 3)), (28, .c (.s (.er 30 .i64 r161.2.2.2.2)))], [], [⟨(.ro false), 45, 1, l2.length, .w l2⟩, ⟨(.ro false), 45, 1, r63.2.1, .w r63.1⟩, ⟨(.ro false), 45, 1, r161.2.1, .w r161.1⟩, ⟨(.ro false), 45, 1, r161.2.2.2.1, .w r161.2.2.1⟩]⟩) (by kernel_rfl) (allP_cons.2 ⟨g28, allP_nil⟩) ?_
                                    refine W_seq ?_
                                    refine W_seq ?_
                                    obtain ⟨r166, g29, h⟩ := bind_some' h
                                    refine W_reg hT (ftL_cons (k := 1) (f := 31) (F := (pCmp_ct n r166)) (pCmp_ok n r166) (fun _ _ => True.intro) ftL_nil) [] [] [2, 7, 12, 26, 27, 28, 167] [0, 1, 2, 3] (s' := ⟨[(2, .c (.wh 0)), (7, .c (.s (.b r33))), (12, .c (.wh 1)), (26, .c (.wh 2)), (27, .c (.wh 3)), (28, .c (.s (.er 30 .i64 r161.2.2.2.2))), (167, .c (.s (.b (r166 == 0))))], [], [⟨(.ro false), 45, 1, l2.length, .w l2⟩, ⟨(.ro false), 45, 1, r63.2.1, .w r63.1⟩, ⟨(.ro false), 45, 1, r161.2.1, .w r161.1⟩, ⟨(.ro false), 45, 1, r161.2.2.2.1, .w r161.2.2.1⟩]⟩) (by kernel_rfl) (allP_cons.2 ⟨g29, allP_nil⟩) ?_
                                    refine W_cond (b := (r166 == 0)) (by kernel_rfl) (fun g41 => ?_) (fun g41 => ?_)
                                    · replace h := bif_t h g41
                                      refine W_seq ?_
                                      rcases Bool.eq_false_or_eq_true r33 with g30 | g30
                                      · replace h := bif_t h g30
                                        obtain ⟨g31, h⟩ := gd_some h
                                        refine W_reg hT ftL_nil [(1, true)] [] [6] [] (s' := ⟨[(6, .c (.s (.b (r161.2.2.2.2 == (some 1)))))], [], []⟩) (by kernel_rfl) (allP_cons.2 ⟨g30, (allP_cons.2 ⟨g31, allP_nil⟩)⟩) ?_
                                        refine W_co [] [6] [] (s' := (lRing_R (r161.2.2.2.2 == (some 1)))) (by kernel_rfl) (W_ret ?_)
                                        exact ⟨.inl rfl, by cases h; rfl⟩
                                      · replace h := bif_f h g30
                                        refine W_reg hT ftL_nil [(1, false)] [] [6] [] (s' := ⟨[(6, .c (.s (.b false)))], [], []⟩) (by kernel_rfl) (allP_cons.2 ⟨g30, allP_nil⟩) ?_
                                        refine W_co [] [6] [] (s' := (lRing_R false)) (by kernel_rfl) (W_ret ?_)
                                        exact ⟨.inl rfl, by cases h; rfl⟩
                                    · replace h := bif_f h g41
                                      refine W_co [] [2, 7, 12, 26, 27, 28] [0, 1, 2, 3] (s' := ⟨[(2, .c (.wh 0)), (7, .c (.s (.b r33))), (12, .c (.wh 1)), (26, .c (.wh 2)), (27, .c (.wh 3)), (28, .c (.s (.er 30 .i64 r161.2.2.2.2)))], [], [⟨(.ro false), 45, 1, l2.length, .w l2⟩, ⟨(.ro false), 45, 1, r63.2.1, .w r63.1⟩, ⟨(.ro false), 45, 1, r161.2.1, .w r161.1⟩, ⟨(.ro false), 45, 1, r161.2.2.2.1, .w r161.2.2.1⟩]⟩) (by kernel_rfl) (W_skip ?_)
                                      refine W_seq ?_
                                      obtain ⟨r177, g32, h⟩ := bind_some' h
                                      refine W_reg hT (ftL_cons (k := 2) (f := 25) (F := (pMul_ct n r177)) (pMul_ok n r177) (fun _ _ => True.intro) ftL_nil) [] [] [2, 7, 12, 27, 28, 29, 30] [0, 1, 3, 4] (s' := ⟨[(2, .c (.wh 0)), (7, .c (.s (.b r33))), (12, .c (.wh 1)), (27, .c (.wh 2)), (28, .c (.s (.er 30 .i64 r161.2.2.2.2))), (29, .c (.wh 3)), (30, .c (.s (.er 30 .i64 r177.2.2)))], [], [⟨(.ro false), 45, 1, l2.length, .w l2⟩, ⟨(.ro false), 45, 1, r63.2.1, .w r63.1⟩, ⟨(.ro false), 45, 1, r161.2.2.2.1, .w r161.2.2.1⟩, ⟨(.ro false), 45, 1, r177.2.1, .w r177.1⟩]⟩) (by kernel_rfl) (allP_cons.2 ⟨g32, allP_nil⟩) ?_
                                      refine W_seq ?_
                                      obtain ⟨r183, g33, h⟩ := bind_some' h
                                      refine W_reg hT (ftL_cons (k := 2) (f := 26) (F := (pAdd_ct n r183)) (pAdd_ok n r183) (fun _ _ => True.intro) ftL_nil) [] [] [2, 7, 12, 27, 28, 30, 31, 32] [0, 1, 2, 4] (s' := ⟨[(2, .c (.wh 0)), (7, .c (.s (.b r33))), (12, .c (.wh 1)), (27, .c (.wh 2)), (28, .c (.s (.er 30 .i64 r161.2.2.2.2))), (30, .c (.s (.er 30 .i64 r177.2.2))), (31, .c (.wh 3)), (32, .c (.s (.er 30 .i64 r183.2.2)))], [], [⟨(.ro false), 45, 1, l2.length, .w l2⟩, ⟨(.ro false), 45, 1, r63.2.1, .w r63.1⟩, ⟨(.ro false), 45, 1, r161.2.2.2.1, .w r161.2.2.1⟩, ⟨(.ro false), 45, 1, r183.2.1, .w r183.1⟩]⟩) (by kernel_rfl) (allP_cons.2 ⟨g33, allP_nil⟩) ?_
                                      refine W_seq ?_
                                      rcases Bool.eq_false_or_eq_true r33 with g34 | g34
                                      · replace h := bif_t h g34
                                        rcases Bool.eq_false_or_eq_true ((r161.2.2.2.2).isNone) with g35 | g35
                                        · replace h := bif_t h g35
                                          rcases Bool.eq_false_or_eq_true ((r177.2.2).isNone) with g36 | g36
                                          · replace h := bif_t h g36
                                            rcases Bool.eq_false_or_eq_true ((r183.2.2).isNone) with g37 | g37
                                            · replace h := bif_t h g37
                                              obtain ⟨r202, g38, h⟩ := bind_some' h
                                              rcases Bool.eq_false_or_eq_true (r202 == 0) with g39 | g39
                                              · replace h := bif_t h g39
                                                obtain ⟨r208, g40, h⟩ := bind_some' h
                                                refine W_reg hT (ftL_cons (k := 16) (f := 31) (F := (pCmp_ct n r202)) (pCmp_ok n r202) (fun _ _ => True.intro) (ftL_cons (k := 22) (f := 31) (F := (pCmp_ct n r208)) (pCmp_ok n r208) (fun _ _ => True.intro) ftL_nil)) [(1, true), (5, true), (9, true), (13, true), (19, true)] [] [6] [] (s' := ⟨[(6, .c (.s (.b (decide (r208 < (0 : Int))))))], [], []⟩) (by kernel_rfl) (allP_cons.2 ⟨g34, (allP_cons.2 ⟨g35, (allP_cons.2 ⟨g36, (allP_cons.2 ⟨g37, (allP_cons.2 ⟨g38, (allP_cons.2 ⟨g39, (allP_cons.2 ⟨g40, allP_nil⟩)⟩)⟩)⟩)⟩)⟩)⟩) ?_
                                                refine W_co [] [6] [] (s' := (lRing_R (decide (r208 < (0 : Int))))) (by kernel_rfl) (W_ret ?_)
                                                exact ⟨.inl rfl, by cases h; rfl⟩
                                              · replace h := bif_f h g39
                                                refine W_reg hT (ftL_cons (k := 16) (f := 31) (F := (pCmp_ct n r202)) (pCmp_ok n r202) (fun _ _ => True.intro) ftL_nil) [(1, true), (5, true), (9, true), (13, true), (19, false)] [] [6] [] (s' := ⟨[(6, .c (.s (.b false)))], [], []⟩) (by kernel_rfl) (allP_cons.2 ⟨g34, (allP_cons.2 ⟨g35, (allP_cons.2 ⟨g36, (allP_cons.2 ⟨g37, (allP_cons.2 ⟨g38, (allP_cons.2 ⟨g39, allP_nil⟩)⟩)⟩)⟩)⟩)⟩) ?_
                                                refine W_co [] [6] [] (s' := (lRing_R false)) (by kernel_rfl) (W_ret ?_)
                                                exact ⟨.inl rfl, by cases h; rfl⟩
                                            · replace h := bif_f h g37
                                              refine W_reg hT ftL_nil [(1, true), (5, true), (9, true), (13, false)] [] [6] [] (s' := ⟨[(6, .c (.s (.b false)))], [], []⟩) (by kernel_rfl) (allP_cons.2 ⟨g34, (allP_cons.2 ⟨g35, (allP_cons.2 ⟨g36, (allP_cons.2 ⟨g37, allP_nil⟩)⟩)⟩)⟩) ?_
                                              refine W_co [] [6] [] (s' := (lRing_R false)) (by kernel_rfl) (W_ret ?_)
                                              exact ⟨.inl rfl, by cases h; rfl⟩
                                          · replace h := bif_f h g36
                                            refine W_reg hT ftL_nil [(1, true), (5, true), (9, false)] [] [6] [] (s' := ⟨[(6, .c (.s (.b false)))], [], []⟩) (by kernel_rfl) (allP_cons.2 ⟨g34, (allP_cons.2 ⟨g35, (allP_cons.2 ⟨g36, allP_nil⟩)⟩)⟩) ?_
                                            refine W_co [] [6] [] (s' := (lRing_R false)) (by kernel_rfl) (W_ret ?_)
                                            exact ⟨.inl rfl, by cases h; rfl⟩
                                        · replace h := bif_f h g35
                                          refine W_reg hT ftL_nil [(1, true), (5, false)] [] [6] [] (s' := ⟨[(6, .c (.s (.b false)))], [], []⟩) (by kernel_rfl) (allP_cons.2 ⟨g34, (allP_cons.2 ⟨g35, allP_nil⟩)⟩) ?_
                                          refine W_co [] [6] [] (s' := (lRing_R false)) (by kernel_rfl) (W_ret ?_)
                                          exact ⟨.inl rfl, by cases h; rfl⟩
                                      · replace h := bif_f h g34
                                        refine W_reg hT ftL_nil [(1, false)] [] [6] [] (s' := ⟨[(6, .c (.s (.b false)))], [], []⟩) (by kernel_rfl) (allP_cons.2 ⟨g34, allP_nil⟩) ?_
                                        refine W_co [] [6] [] (s' := (lRing_R false)) (by kernel_rfl) (W_ret ?_)
                                        exact ⟨.inl rfl, by cases h; rfl⟩
  · rintro e s' ⟨he, rfl⟩
    refine ⟨he, fun a' w' hr => ?_⟩
    exact retS_ok tabO_nvring hr (rs := [.tmp 6]) rfl (objs := []) (by kernel_rfl)
end Go.Proofs.Ytpinmaodpfoinaa
