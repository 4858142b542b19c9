import Derived.Test.YtpinmaodpfoinaaSxX
import Derived.Test.YtpinmaodpfoinaaProg
import Derived.Test.YtpinmaodpfoinaaNu
set_option linter.unusedVariables false
set_option linter.unusedSimpArgs false
namespace Go.Proofs.Ytpinmaodpfoinaa
open Go.RowKit Go.Ch Go.Sx

def tabL_nvpowers : List (TypeId × Ti) := [(23, ⟨.sl 45, 1, 24, false, some [.nils]⟩),
  (27, ⟨.ifc, 1, 16, true, some [.ifc]⟩),
  (45, ⟨.int .u32, 1, 4, true, some [.int .u32]⟩)]
def tab_nvpowers : Tab := fun t => (tabL_nvpowers).lookup t
theorem tabE_nvpowers : (tabL_nvpowers.map fun p => tiOf Try.prog p.1) = tabL_nvpowers.map fun p => some p.2 := by kernel_rfl
theorem tabO_nvpowers : TabOk Try.prog tab_nvpowers := tab_of tabE_nvpowers

def lPowers (n : Nat) (a0 : List UInt32) (a1 : List UInt32) (a2 : List UInt32) (a3 : List UInt32) : Option (Bool) :=
  (lup n).bind fun r23 =>
  bif (decide ((20 : Int) < ((a0.length : Nat) : Int))) then
    some r23
  else
    bif (decide ((2 : Int) < ((a1.length : Nat) : Int))) then
      some r23
    else
      bif (decide ((2 : Int) < ((a2.length : Nat) : Int))) then
        some r23
      else
        bif (decide ((6 : Int) < ((a3.length : Nat) : Int))) then
          some r23
        else
          (pCmp n a3 []).bind fun r44 =>
          bif (r44 == 0) then
            some r23
          else
            (pAdd n a1 a2).bind fun r51 =>
            (pExp n a0 a1 a3).bind fun r58 =>
            (pExp n a0 a2 a3).bind fun r65 =>
            (pExp n a0 r51.1 a3).bind fun r72 =>
            (pMul n r58.1 r65.1).bind fun r78 =>
            (pDiv n r78.1 a3).bind fun r84 =>
            bif r23 then
              bif ((r51.2.2).isNone) then
                bif ((r58.2).isNone) then
                  bif ((r65.2).isNone) then
                    bif ((r72.2).isNone) then
                      bif ((r78.2.2).isNone) then
                        bif ((r84.2.2.2.2).isNone) then
                          (pCmp n r84.2.2.1 r72.1).bind fun r116 =>
                          some (r116 == 0)
                        else
                          some false
                      else
                        some false
                    else
                      some false
                  else
                    some false
                else
                  some false
              else
                some false
            else
              some false

def lPowers_R (r : Bool) : S := ⟨[(8, .c (.s (.b r)))], [], []⟩
def lPowers_ct (n : Nat) (r : Bool) : Ct := fun args H => match args with
  | [x0, x1, x2, x3] => (match aW H x0 with | some l0 => (match aW H x1 with | some l1 => (match aW H x2 with | some l2 => (match aW H x3 with | some l3 => some ([lPowers n l0 l1 l2 l3 = some r], shA H.length (.c (.s (.b r))), shH H.length []) | none => none) | none => none) | none => none) | none => none)
  | _ => none
theorem lPowers_ok (n : Nat) (r : Bool) : FnOk Try.prog Tr 10 (lPowers_ct n r) := by
  refine ⟨fun args H g av objs hF hg ρ w vals hG hp ha => ?_, _, Try.func10, by kernel_rfl, by kernel_rfl⟩
  obtain ⟨x0, x1, x2, x3, rfl⟩ : ∃ x0 x1 x2 x3, args = [x0, x1, x2, x3] := by
    unfold lPowers_ct at hF; split at hF
    · exact ⟨_, _, _, _, rfl⟩
    · cases hF
  cases e0 : aW H x0 with
  | none => simp only [lPowers_ct, e0, reduceCtorEq] at hF
  | some l0 =>
  cases e1 : aW H x1 with
  | none => simp only [lPowers_ct, e0, e1, reduceCtorEq] at hF
  | some l1 =>
  cases e2 : aW H x2 with
  | none => simp only [lPowers_ct, e0, e1, e2, reduceCtorEq] at hF
  | some l2 =>
  cases e3 : aW H x3 with
  | none => simp only [lPowers_ct, e0, e1, e2, e3, reduceCtorEq] at hF
  | some l3 =>
  simp only [lPowers_ct, e0, e1, e2, e3, Option.some.injEq, Prod.mk.injEq] at hF
  obtain ⟨rfl, rfl, rfl⟩ := hF
  obtain ⟨v0, vals, rfl, k0, ha⟩ := F2.inv ha
  obtain ⟨v1, vals, rfl, k1, ha⟩ := F2.inv ha
  obtain ⟨v2, vals, rfl, k2, ha⟩ := F2.inv ha
  obtain ⟨v3, vals, rfl, k3, ha⟩ := F2.inv ha
  obtain rfl := F2.inv0 ha
  have hI : ∀ w', Kp (noB (fun _ => undef)) w w' → Tr w' := fun _ hk => Tr.keep hk.below hG
  have h : lPowers n l0 l1 l2 l3 = some r := hg
  obtain ⟨p0, s0, o0⟩ := aW_ok hp e0 (k0) 45
  obtain ⟨p1, s1, o1⟩ := aW_ok hp e1 (k1) 45
  obtain ⟨p2, s2, o2⟩ := aW_ok hp e2 (k2) 45
  obtain ⟨p3, s3, o3⟩ := aW_ok hp e3 (k3) 45
  have hR0 := rel0 (gv := (fun _ => undef)) (n := 119) (w := w) (args := [.c (.wh 0), .c (.wh 1), .c (.wh 2), .c (.wh 3)]) (H := [⟨.ro false, 45, 1, l0.length, .w l0⟩, ⟨.ro false, 45, 1, l1.length, .w l1⟩, ⟨.ro false, 45, 1, l2.length, .w l2⟩, ⟨.ro false, 45, 1, l3.length, .w l3⟩]) (gl := []) (hpL (ps := [p0, p1, p2, p3]) (F2.cons o0 (F2.cons o1 (F2.cons o2 (F2.cons o3 F2.nil))))) (allRo_ok rfl) (F2.cons s0 (F2.cons s1 (F2.cons s2 (F2.cons s3 F2.nil)))) GlR.nil (by simp)
  clear ha hp hg k0 k1 k2 k3 e0 e1 e2 e3
  refine calls_W Try.func10 rfl rfl hR0 (Q := fun e s => (e = .ret ∨ e = .normal) ∧ s = lPowers_R r) ?_ ?_
  · clear hR0
    unfold lPowers at h
    have hT := tabO_nvpowers
    refine W_seq ?_
    refine W_reg hT ftL_nil [] [] [0, 1, 2, 3] [0, 1, 2, 3] (s' := ⟨[(0, .c (.wh 0)), (1, .c (.wh 1)), (2, .c (.wh 2)), (3, .c (.wh 3))], [], [⟨(.ro false), 45, 1, l0.length, .w l0⟩, ⟨(.ro false), 45, 1, l1.length, .w l1⟩, ⟨(.ro false), 45, 1, l2.length, .w l2⟩, ⟨(.ro false), 45, 1, l3.length, .w l3⟩]⟩) (by kernel_rfl) allP_nil ?_
    refine W_seq ?_
    obtain ⟨r23, g1, h⟩ := bind_some' h
    refine W_reg hT (ftL_cons (k := 0) (f := 11) (F := (lup_ct n r23)) (lup_ok n r23) (fun _ _ => True.intro) ftL_nil) [] [] [0, 1, 2, 3, 9] [0, 1, 2, 3] (s' := ⟨[(0, .c (.wh 0)), (1, .c (.wh 1)), (2, .c (.wh 2)), (3, .c (.wh 3)), (9, .c (.s (.b r23)))], [], [⟨(.ro false), 45, 1, l0.length, .w l0⟩, ⟨(.ro false), 45, 1, l1.length, .w l1⟩, ⟨(.ro false), 45, 1, l2.length, .w l2⟩, ⟨(.ro false), 45, 1, l3.length, .w l3⟩]⟩) (by kernel_rfl) (allP_cons.2 ⟨g1, allP_nil⟩) ?_
    refine W_seq ?_
    refine W_seq ?_
    rcases Bool.eq_false_or_eq_true (decide ((20 : Int) < ((l0.length : Nat) : Int))) with g2 | g2
    · replace h := bif_t h g2
      refine W_reg hT ftL_nil [(3, true)] [] [0, 1, 2, 3, 9, 46] [0, 1, 2, 3] (s' := ⟨[(0, .c (.wh 0)), (1, .c (.wh 1)), (2, .c (.wh 2)), (3, .c (.wh 3)), (9, .c (.s (.b r23))), (46, .c (.s (.b true)))], [], [⟨(.ro false), 45, 1, l0.length, .w l0⟩, ⟨(.ro false), 45, 1, l1.length, .w l1⟩, ⟨(.ro false), 45, 1, l2.length, .w l2⟩, ⟨(.ro false), 45, 1, l3.length, .w l3⟩]⟩) (by kernel_rfl) (allP_cons.2 ⟨g2, allP_nil⟩) ?_
      refine W_cond (b := true) (by kernel_rfl) (fun _ => ?_) (fun hb => by cases hb)
      refine W_seq ?_
      refine W_reg hT ftL_nil [] [] [8] [] (s' := ⟨[(8, .c (.s (.b r23)))], [], []⟩) (by kernel_rfl) allP_nil ?_
      refine W_co [] [8] [] (s' := (lPowers_R r23)) (by kernel_rfl) (W_ret ?_)
      exact ⟨.inl rfl, by cases h; rfl⟩
    · replace h := bif_f h g2
      rcases Bool.eq_false_or_eq_true (decide ((2 : Int) < ((l1.length : Nat) : Int))) with g3 | g3
      · replace h := bif_t h g3
        refine W_reg hT ftL_nil [(3, false), (8, true)] [] [0, 1, 2, 3, 9, 46] [0, 1, 2, 3] (s' := ⟨[(0, .c (.wh 0)), (1, .c (.wh 1)), (2, .c (.wh 2)), (3, .c (.wh 3)), (9, .c (.s (.b r23))), (46, .c (.s (.b true)))], [], [⟨(.ro false), 45, 1, l0.length, .w l0⟩, ⟨(.ro false), 45, 1, l1.length, .w l1⟩, ⟨(.ro false), 45, 1, l2.length, .w l2⟩, ⟨(.ro false), 45, 1, l3.length, .w l3⟩]⟩) (by kernel_rfl) (allP_cons.2 ⟨g2, (allP_cons.2 ⟨g3, allP_nil⟩)⟩) ?_
        refine W_cond (b := true) (by kernel_rfl) (fun _ => ?_) (fun hb => by cases hb)
        refine W_seq ?_
        refine W_reg hT ftL_nil [] [] [8] [] (s' := ⟨[(8, .c (.s (.b r23)))], [], []⟩) (by kernel_rfl) allP_nil ?_
        refine W_co [] [8] [] (s' := (lPowers_R r23)) (by kernel_rfl) (W_ret ?_)
        exact ⟨.inl rfl, by cases h; rfl⟩
      · replace h := bif_f h g3
        rcases Bool.eq_false_or_eq_true (decide ((2 : Int) < ((l2.length : Nat) : Int))) with g4 | g4
        · replace h := bif_t h g4
          refine W_reg hT ftL_nil [(3, false), (8, false), (13, true)] [] [0, 1, 2, 3, 9, 46] [0, 1, 2, 3] (s' := ⟨[(0, .c (.wh 0)), (1, .c (.wh 1)), (2, .c (.wh 2)), (3, .c (.wh 3)), (9, .c (.s (.b r23))), (46, .c (.s (.b true)))], [], [⟨(.ro false), 45, 1, l0.length, .w l0⟩, ⟨(.ro false), 45, 1, l1.length, .w l1⟩, ⟨(.ro false), 45, 1, l2.length, .w l2⟩, ⟨(.ro false), 45, 1, l3.length, .w l3⟩]⟩) (by kernel_rfl) (allP_cons.2 ⟨g2, (allP_cons.2 ⟨g3, (allP_cons.2 ⟨g4, allP_nil⟩)⟩)⟩) ?_
          refine W_cond (b := true) (by kernel_rfl) (fun _ => ?_) (fun hb => by cases hb)
          refine W_seq ?_
          refine W_reg hT ftL_nil [] [] [8] [] (s' := ⟨[(8, .c (.s (.b r23)))], [], []⟩) (by kernel_rfl) allP_nil ?_
          refine W_co [] [8] [] (s' := (lPowers_R r23)) (by kernel_rfl) (W_ret ?_)
          exact ⟨.inl rfl, by cases h; rfl⟩
        · replace h := bif_f h g4
          rcases Bool.eq_false_or_eq_true (decide ((6 : Int) < ((l3.length : Nat) : Int))) with g5 | g5
          · replace h := bif_t h g5
            refine W_reg hT ftL_nil [(3, false), (8, false), (13, false), (18, true)] [] [0, 1, 2, 3, 9, 46] [0, 1, 2, 3] (s' := ⟨[(0, .c (.wh 0)), (1, .c (.wh 1)), (2, .c (.wh 2)), (3, .c (.wh 3)), (9, .c (.s (.b r23))), (46, .c (.s (.b true)))], [], [⟨(.ro false), 45, 1, l0.length, .w l0⟩, ⟨(.ro false), 45, 1, l1.length, .w l1⟩, ⟨(.ro false), 45, 1, l2.length, .w l2⟩, ⟨(.ro false), 45, 1, l3.length, .w l3⟩]⟩) (by kernel_rfl) (allP_cons.2 ⟨g2, (allP_cons.2 ⟨g3, (allP_cons.2 ⟨g4, (allP_cons.2 ⟨g5, allP_nil⟩)⟩)⟩)⟩) ?_
            refine W_cond (b := true) (by kernel_rfl) (fun _ => ?_) (fun hb => by cases hb)
            refine W_seq ?_
            refine W_reg hT ftL_nil [] [] [8] [] (s' := ⟨[(8, .c (.s (.b r23)))], [], []⟩) (by kernel_rfl) allP_nil ?_
            refine W_co [] [8] [] (s' := (lPowers_R r23)) (by kernel_rfl) (W_ret ?_)
            exact ⟨.inl rfl, by cases h; rfl⟩
          · replace h := bif_f h g5
            obtain ⟨r44, g6, h⟩ := bind_some' h
            refine W_reg hT (ftL_cons (k := 20) (f := 31) (F := (pCmp_ct n r44)) (pCmp_ok n r44) (fun _ _ => True.intro) ftL_nil) [(3, false), (8, false), (13, false), (18, false)] [] [0, 1, 2, 3, 9, 46] [0, 1, 2, 3] (s' := ⟨[(0, .c (.wh 0)), (1, .c (.wh 1)), (2, .c (.wh 2)), (3, .c (.wh 3)), (9, .c (.s (.b r23))), (46, .c (.s (.b (r44 == 0))))], [], [⟨(.ro false), 45, 1, l0.length, .w l0⟩, ⟨(.ro false), 45, 1, l1.length, .w l1⟩, ⟨(.ro false), 45, 1, l2.length, .w l2⟩, ⟨(.ro false), 45, 1, l3.length, .w l3⟩]⟩) (by kernel_rfl) (allP_cons.2 ⟨g2, (allP_cons.2 ⟨g3, (allP_cons.2 ⟨g4, (allP_cons.2 ⟨g5, (allP_cons.2 ⟨g6, allP_nil⟩)⟩)⟩)⟩)⟩) ?_
            refine W_cond (b := (r44 == 0)) (by kernel_rfl) (fun g21 => ?_) (fun g21 => ?_)
            · replace h := bif_t h g21
              refine W_seq ?_
              refine W_reg hT ftL_nil [] [] [8] [] (s' := ⟨[(8, .c (.s (.b r23)))], [], []⟩) (by kernel_rfl) allP_nil ?_
              refine W_co [] [8] [] (s' := (lPowers_R r23)) (by kernel_rfl) (W_ret ?_)
              exact ⟨.inl rfl, by cases h; rfl⟩
            · replace h := bif_f h g21
              refine W_co [] [0, 1, 2, 3, 9] [0, 1, 2, 3] (s' := ⟨[(0, .c (.wh 0)), (1, .c (.wh 1)), (2, .c (.wh 2)), (3, .c (.wh 3)), (9, .c (.s (.b r23)))], [], [⟨(.ro false), 45, 1, l0.length, .w l0⟩, ⟨(.ro false), 45, 1, l1.length, .w l1⟩, ⟨(.ro false), 45, 1, l2.length, .w l2⟩, ⟨(.ro false), 45, 1, l3.length, .w l3⟩]⟩) (by kernel_rfl) (W_skip ?_)
              refine W_seq ?_
              obtain ⟨r51, g7, h⟩ := bind_some' h
              refine W_reg hT (ftL_cons (k := 2) (f := 26) (F := (pAdd_ct n r51)) (pAdd_ok n r51) (fun _ _ => True.intro) ftL_nil) [] [] [0, 1, 2, 3, 9, 10, 11] [0, 1, 2, 3, 4] (s' := ⟨[(0, .c (.wh 0)), (1, .c (.wh 1)), (2, .c (.wh 2)), (3, .c (.wh 3)), (9, .c (.s (.b r23))), (10, .c (.wh 4)), (11, .c (.s (.er 30 .i64 r51.2.2)))], [], [⟨(.ro false), 45, 1, l0.length, .w l0⟩, ⟨(.ro false), 45, 1, l1.length, .w l1⟩, ⟨(.ro false), 45, 1, l2.length, .w l2⟩, ⟨(.ro false), 45, 1, l3.length, .w l3⟩, ⟨(.ro false), 45, 1, r51.2.1, .w r51.1⟩]⟩) (by kernel_rfl) (allP_cons.2 ⟨g7, allP_nil⟩) ?_
              refine W_seq ?_
              obtain ⟨r58, g8, h⟩ := bind_some' h
              refine W_reg hT (ftL_cons (k := 3) (f := 18) (F := (pExp_ct n r58)) (pExp_ok n r58) (fun _ _ => True.intro) ftL_nil) [] [] [0, 2, 3, 9, 10, 11, 12, 13] [0, 2, 3, 4, 5] (s' := ⟨[(0, .c (.wh 0)), (2, .c (.wh 1)), (3, .c (.wh 2)), (9, .c (.s (.b r23))), (10, .c (.wh 3)), (11, .c (.s (.er 30 .i64 r51.2.2))), (12, .c (.wh 4)), (13, .c (.s (.er 30 .i64 r58.2)))], [], [⟨(.ro false), 45, 1, l0.length, .w l0⟩, ⟨(.ro false), 45, 1, l2.length, .w l2⟩, ⟨(.ro false), 45, 1, l3.length, .w l3⟩, ⟨(.ro false), 45, 1, r51.2.1, .w r51.1⟩, ⟨.row, 45, 1, r58.1.length, .w r58.1⟩]⟩) (by kernel_rfl) (allP_cons.2 ⟨g8, allP_nil⟩) ?_
              refine W_seq ?_
              obtain ⟨r65, g9, h⟩ := bind_some' h
              refine W_reg hT (ftL_cons (k := 3) (f := 18) (F := (pExp_ct n r65)) (pExp_ok n r65) (fun _ _ => True.intro) ftL_nil) [] [] [0, 3, 9, 10, 11, 12, 13, 14, 15] [0, 2, 3, 4, 5] (s' := ⟨[(0, .c (.wh 0)), (3, .c (.wh 1)), (9, .c (.s (.b r23))), (10, .c (.wh 2)), (11, .c (.s (.er 30 .i64 r51.2.2))), (12, .c (.wh 3)), (13, .c (.s (.er 30 .i64 r58.2))), (14, .c (.wh 4)), (15, .c (.s (.er 30 .i64 r65.2)))], [], [⟨(.ro false), 45, 1, l0.length, .w l0⟩, ⟨(.ro false), 45, 1, l3.length, .w l3⟩, ⟨(.ro false), 45, 1, r51.2.1, .w r51.1⟩, ⟨.row, 45, 1, r58.1.length, .w r58.1⟩, ⟨.row, 45, 1, r65.1.length, .w r65.1⟩]⟩) (by kernel_rfl) (allP_cons.2 ⟨g9, allP_nil⟩) ?_
              refine W_seq ?_
              obtain ⟨r72, g10, h⟩ := bind_some' h
              refine W_reg hT (ftL_cons (k := 3) (f := 18) (F := (pExp_ct n r72)) (pExp_ok n r72) (fun _ _ => True.intro) ftL_nil) [] [] [3, 9, 11, 12, 13, 14, 15, 16, 17] [1, 3, 4, 5] (s' := ⟨[(3, .c (.wh 0)), (9, .c (.s (.b r23))), (11, .c (.s (.er 30 .i64 r51.2.2))), (12, .c (.wh 1)), (13, .c (.s (.er 30 .i64 r58.2))), (14, .c (.wh 2)), (15, .c (.s (.er 30 .i64 r65.2))), (16, .c (.wh 3)), (17, .c (.s (.er 30 .i64 r72.2)))], [], [⟨(.ro false), 45, 1, l3.length, .w l3⟩, ⟨.row, 45, 1, r58.1.length, .w r58.1⟩, ⟨.row, 45, 1, r65.1.length, .w r65.1⟩, ⟨.row, 45, 1, r72.1.length, .w r72.1⟩]⟩) (by kernel_rfl) (allP_cons.2 ⟨g10, allP_nil⟩) ?_
              refine W_seq ?_
              obtain ⟨r78, g11, h⟩ := bind_some' h
              refine W_reg hT (ftL_cons (k := 2) (f := 25) (F := (pMul_ct n r78)) (pMul_ok n r78) (fun _ _ => True.intro) ftL_nil) [] [] [3, 9, 11, 13, 15, 16, 17, 18, 19] [0, 3, 4] (s' := ⟨[(3, .c (.wh 0)), (9, .c (.s (.b r23))), (11, .c (.s (.er 30 .i64 r51.2.2))), (13, .c (.s (.er 30 .i64 r58.2))), (15, .c (.s (.er 30 .i64 r65.2))), (16, .c (.wh 1)), (17, .c (.s (.er 30 .i64 r72.2))), (18, .c (.wh 2)), (19, .c (.s (.er 30 .i64 r78.2.2)))], [], [⟨(.ro false), 45, 1, l3.length, .w l3⟩, ⟨(.ro true), 45, 1, r72.1.length, .w r72.1⟩, ⟨(.ro false), 45, 1, r78.2.1, .w r78.1⟩]⟩) (by kernel_rfl) (allP_cons.2 ⟨g11, allP_nil⟩) ?_
              refine W_seq ?_
              obtain ⟨r84, g12, h⟩ := bind_some' h
              refine W_reg hT (ftL_cons (k := 2) (f := 13) (F := (pDiv_ct n r84)) (pDiv_ok n r84) (fun _ _ => True.intro) ftL_nil) [] [] [9, 11, 13, 15, 16, 17, 19, 21, 22] [1, 4] (s' := ⟨[(9, .c (.s (.b r23))), (11, .c (.s (.er 30 .i64 r51.2.2))), (13, .c (.s (.er 30 .i64 r58.2))), (15, .c (.s (.er 30 .i64 r65.2))), (16, .c (.wh 0)), (17, .c (.s (.er 30 .i64 r72.2))), (19, .c (.s (.er 30 .i64 r78.2.2))), (21, .c (.wh 1)), (22, .c (.s (.er 30 .i64 r84.2.2.2.2)))], [], [⟨(.ro true), 45, 1, r72.1.length, .w r72.1⟩, ⟨(.ro false), 45, 1, r84.2.2.2.1, .w r84.2.2.1⟩]⟩) (by kernel_rfl) (allP_cons.2 ⟨g12, allP_nil⟩) ?_
              refine W_seq ?_
              rcases Bool.eq_false_or_eq_true r23 with g13 | g13
              · replace h := bif_t h g13
                rcases Bool.eq_false_or_eq_true ((r51.2.2).isNone) with g14 | g14
                · replace h := bif_t h g14
                  rcases Bool.eq_false_or_eq_true ((r58.2).isNone) with g15 | g15
                  · replace h := bif_t h g15
                    rcases Bool.eq_false_or_eq_true ((r65.2).isNone) with g16 | g16
                    · replace h := bif_t h g16
                      rcases Bool.eq_false_or_eq_true ((r72.2).isNone) with g17 | g17
                      · replace h := bif_t h g17
                        rcases Bool.eq_false_or_eq_true ((r78.2.2).isNone) with g18 | g18
                        · replace h := bif_t h g18
                          rcases Bool.eq_false_or_eq_true ((r84.2.2.2.2).isNone) with g19 | g19
                          · replace h := bif_t h g19
                            obtain ⟨r116, g20, h⟩ := bind_some' h
                            refine W_reg hT (ftL_cons (k := 28) (f := 31) (F := (pCmp_ct n r116)) (pCmp_ok n r116) (fun _ _ => True.intro) ftL_nil) [(1, true), (5, true), (9, true), (13, true), (17, true), (21, true), (25, true)] [] [8] [] (s' := ⟨[(8, .c (.s (.b (r116 == 0))))], [], []⟩) (by kernel_rfl) (allP_cons.2 ⟨g13, (allP_cons.2 ⟨g14, (allP_cons.2 ⟨g15, (allP_cons.2 ⟨g16, (allP_cons.2 ⟨g17, (allP_cons.2 ⟨g18, (allP_cons.2 ⟨g19, (allP_cons.2 ⟨g20, allP_nil⟩)⟩)⟩)⟩)⟩)⟩)⟩)⟩) ?_
                            refine W_co [] [8] [] (s' := (lPowers_R (r116 == 0))) (by kernel_rfl) (W_ret ?_)
                            exact ⟨.inl rfl, by cases h; rfl⟩
                          · replace h := bif_f h g19
                            refine W_reg hT ftL_nil [(1, true), (5, true), (9, true), (13, true), (17, true), (21, true), (25, false)] [] [8] [] (s' := ⟨[(8, .c (.s (.b false)))], [], []⟩) (by kernel_rfl) (allP_cons.2 ⟨g13, (allP_cons.2 ⟨g14, (allP_cons.2 ⟨g15, (allP_cons.2 ⟨g16, (allP_cons.2 ⟨g17, (allP_cons.2 ⟨g18, (allP_cons.2 ⟨g19, allP_nil⟩)⟩)⟩)⟩)⟩)⟩)⟩) ?_
                            refine W_co [] [8] [] (s' := (lPowers_R false)) (by kernel_rfl) (W_ret ?_)
                            exact ⟨.inl rfl, by cases h; rfl⟩
                        · replace h := bif_f h g18
                          refine W_reg hT ftL_nil [(1, true), (5, true), (9, true), (13, true), (17, true), (21, false)] [] [8] [] (s' := ⟨[(8, .c (.s (.b false)))], [], []⟩) (by kernel_rfl) (allP_cons.2 ⟨g13, (allP_cons.2 ⟨g14, (allP_cons.2 ⟨g15, (allP_cons.2 ⟨g16, (allP_cons.2 ⟨g17, (allP_cons.2 ⟨g18, allP_nil⟩)⟩)⟩)⟩)⟩)⟩) ?_
                          refine W_co [] [8] [] (s' := (lPowers_R false)) (by kernel_rfl) (W_ret ?_)
                          exact ⟨.inl rfl, by cases h; rfl⟩
                      · replace h := bif_f h g17
                        refine W_reg hT ftL_nil [(1, true), (5, true), (9, true), (13, true), (17, false)] [] [8] [] (s' := ⟨[(8, .c (.s (.b false)))], [], []⟩) (by kernel_rfl) (allP_cons.2 ⟨g13, (allP_cons.2 ⟨g14, (allP_cons.2 ⟨g15, (allP_cons.2 ⟨g16, (allP_cons.2 ⟨g17, allP_nil⟩)⟩)⟩)⟩)⟩) ?_
                        refine W_co [] [8] [] (s' := (lPowers_R false)) (by kernel_rfl) (W_ret ?_)
                        exact ⟨.inl rfl, by cases h; rfl⟩
                    · replace h := bif_f h g16
                      refine W_reg hT ftL_nil [(1, true), (5, true), (9, true), (13, false)] [] [8] [] (s' := ⟨[(8, .c (.s (.b false)))], [], []⟩) (by kernel_rfl) (allP_cons.2 ⟨g13, (allP_cons.2 ⟨g14, (allP_cons.2 ⟨g15, (allP_cons.2 ⟨g16, allP_nil⟩)⟩)⟩)⟩) ?_
                      refine W_co [] [8] [] (s' := (lPowers_R false)) (by kernel_rfl) (W_ret ?_)
                      exact ⟨.inl rfl, by cases h; rfl⟩
                  · replace h := bif_f h g15
                    refine W_reg hT ftL_nil [(1, true), (5, true), (9, false)] [] [8] [] (s' := ⟨[(8, .c (.s (.b false)))], [], []⟩) (by kernel_rfl) (allP_cons.2 ⟨g13, (allP_cons.2 ⟨g14, (allP_cons.2 ⟨g15, allP_nil⟩)⟩)⟩) ?_
                    refine W_co [] [8] [] (s' := (lPowers_R false)) (by kernel_rfl) (W_ret ?_)
                    exact ⟨.inl rfl, by cases h; rfl⟩
                · replace h := bif_f h g14
                  refine W_reg hT ftL_nil [(1, true), (5, false)] [] [8] [] (s' := ⟨[(8, .c (.s (.b false)))], [], []⟩) (by kernel_rfl) (allP_cons.2 ⟨g13, (allP_cons.2 ⟨g14, allP_nil⟩)⟩) ?_
                  refine W_co [] [8] [] (s' := (lPowers_R false)) (by kernel_rfl) (W_ret ?_)
                  exact ⟨.inl rfl, by cases h; rfl⟩
              · replace h := bif_f h g13
                refine W_reg hT ftL_nil [(1, false)] [] [8] [] (s' := ⟨[(8, .c (.s (.b false)))], [], []⟩) (by kernel_rfl) (allP_cons.2 ⟨g13, allP_nil⟩) ?_
                refine W_co [] [8] [] (s' := (lPowers_R false)) (by kernel_rfl) (W_ret ?_)
                exact ⟨.inl rfl, by cases h; rfl⟩
  · rintro e s' ⟨he, rfl⟩
    refine ⟨he, fun a' w' hr => ?_⟩
    exact retS_ok tabO_nvpowers hr (rs := [.tmp 8]) rfl (objs := []) (by kernel_rfl)
end Go.Proofs.Ytpinmaodpfoinaa
