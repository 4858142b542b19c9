import Derived.Test.YtpinmaodpfoinaaSxX
import Derived.Test.YtpinmaodpfoinaaProg
import Derived.Test.YtpinmaodpfoinaaNu
set_option linter.unusedVariables false
set_option linter.unusedSimpArgs false
namespace Go.Proofs.Ytpinmaodpfoinaa
open Go.RowKit Go.Ch Go.Sx

def tabL_nvmuls : List (TypeId × Ti) := [(23, ⟨.sl 45, 1, 24, false, some [.nils]⟩),
  (27, ⟨.ifc, 1, 16, true, some [.ifc]⟩),
  (30, ⟨.int .i64, 1, 8, true, some [.int .i64]⟩),
  (45, ⟨.int .u32, 1, 4, true, some [.int .u32]⟩)]
def tab_nvmuls : Tab := fun t => (tabL_nvmuls).lookup t
theorem tabE_nvmuls : (tabL_nvmuls.map fun p => tiOf Try.prog p.1) = tabL_nvmuls.map fun p => some p.2 := by kernel_rfl
theorem tabO_nvmuls : TabOk Try.prog tab_nvmuls := tab_of tabE_nvmuls

def lMuls (n : Nat) (a0 : List UInt32) (a1 : List UInt32) : Option (Bool) :=
  (lup n).bind fun r8 =>
  (llight n a0).bind fun r10 =>
  bif (!r10) then
    some r8
  else
    (llight n a1).bind fun r14 =>
    bif (!r14) then
      some r8
    else
      (pMul n a0 a1).bind fun r21 =>
      (rMay n a0).bind fun r25 =>
      bif (!r25) then
        bif r8 then
          gd (¬((r21.2.2 : Option Int) = none ∧ ((some 4) : Option Int) = none)) <|
          bif (r21.2.2 == (some 4)) then
            some (((r21.2.1 : Nat) : Int) == 0)
          else
            some false
        else
          some false
      else
        (rMay n a1).bind fun r29 =>
        bif (!r29) then
          bif r8 then
            gd (¬((r21.2.2 : Option Int) = none ∧ ((some 4) : Option Int) = none)) <|
            bif (r21.2.2 == (some 4)) then
              some (((r21.2.1 : Nat) : Int) == 0)
            else
              some false
          else
            some false
        else
          bif r8 then
            bif ((r21.2.2).isNone) then
              (rOf n a0).bind fun r51 =>
              (rOf n a1).bind fun r53 =>
              (rMul n r51.1 r53.1).bind fun r54 =>
              (rSame n r21.1 r54.1).bind fun r55 =>
              some r55
            else
              some false
          else
            some false

def lMuls_R (r : Bool) : S := ⟨[(4, .c (.s (.b r)))], [], []⟩
def lMuls_ct (n : Nat) (r : Bool) : Ct := fun args H => match args with
  | [x0, x1] => (match aW H x0 with | some l0 => (match aW H x1 with | some l1 => some ([lMuls n l0 l1 = some r], shA H.length (.c (.s (.b r))), shH H.length []) | none => none) | none => none)
  | _ => none
theorem lMuls_ok (n : Nat) (r : Bool) : FnOk Try.prog Tr 6 (lMuls_ct n r) := by
  refine ⟨fun args H g av objs hF hg ρ w vals hG hp ha => ?_, _, Try.func6, by kernel_rfl, by kernel_rfl⟩
  obtain ⟨x0, x1, rfl⟩ : ∃ x0 x1, args = [x0, x1] := by
    unfold lMuls_ct at hF; split at hF
    · exact ⟨_, _, rfl⟩
    · cases hF
  cases e0 : aW H x0 with
  | none => simp only [lMuls_ct, e0, reduceCtorEq] at hF
  | some l0 =>
  cases e1 : aW H x1 with
  | none => simp only [lMuls_ct, e0, e1, reduceCtorEq] at hF
  | some l1 =>
  simp only [lMuls_ct, e0, e1, Option.some.injEq, Prod.mk.injEq] at hF
  obtain ⟨rfl, rfl, rfl⟩ := hF
  obtain ⟨v0, vals, rfl, k0, ha⟩ := F2.inv ha
  obtain ⟨v1, vals, rfl, k1, ha⟩ := F2.inv ha
  obtain rfl := F2.inv0 ha
  have hI : ∀ w', Kp (noB (fun _ => undef)) w w' → Tr w' := fun _ hk => Tr.keep hk.below hG
  have h : lMuls n l0 l1 = some r := hg
  obtain ⟨p0, s0, o0⟩ := aW_ok hp e0 (k0) 45
  obtain ⟨p1, s1, o1⟩ := aW_ok hp e1 (k1) 45
  have hR0 := rel0 (gv := (fun _ => undef)) (n := 57) (w := w) (args := [.c (.wh 0), .c (.wh 1)]) (H := [⟨.ro false, 45, 1, l0.length, .w l0⟩, ⟨.ro false, 45, 1, l1.length, .w l1⟩]) (gl := []) (hpL (ps := [p0, p1]) (F2.cons o0 (F2.cons o1 F2.nil))) (allRo_ok rfl) (F2.cons s0 (F2.cons s1 F2.nil)) GlR.nil (by simp)
  clear ha hp hg k0 k1 e0 e1
  refine calls_W Try.func6 rfl rfl hR0 (Q := fun e s => (e = .ret ∨ e = .normal) ∧ s = lMuls_R r) ?_ ?_
  · clear hR0
    unfold lMuls at h
    have hT := tabO_nvmuls
    refine W_seq ?_
    refine W_reg hT ftL_nil [] [] [0, 1] [0, 1] (s' := ⟨[(0, .c (.wh 0)), (1, .c (.wh 1))], [], [⟨(.ro false), 45, 1, l0.length, .w l0⟩, ⟨(.ro false), 45, 1, l1.length, .w l1⟩]⟩) (by kernel_rfl) allP_nil ?_
    refine W_seq ?_
    obtain ⟨r8, g1, h⟩ := bind_some' h
    refine W_reg hT (ftL_cons (k := 0) (f := 11) (F := (lup_ct n r8)) (lup_ok n r8) (fun _ _ => True.intro) ftL_nil) [] [] [0, 1, 5] [0, 1] (s' := ⟨[(0, .c (.wh 0)), (1, .c (.wh 1)), (5, .c (.s (.b r8)))], [], [⟨(.ro false), 45, 1, l0.length, .w l0⟩, ⟨(.ro false), 45, 1, l1.length, .w l1⟩]⟩) (by kernel_rfl) (allP_cons.2 ⟨g1, allP_nil⟩) ?_
    refine W_seq ?_
    refine W_seq ?_
    obtain ⟨r10, g2, h⟩ := bind_some' h
    rcases Bool.eq_false_or_eq_true (!r10) with g3 | g3
    · replace h := bif_t h g3
      refine W_reg hT (ftL_cons (k := 1) (f := 12) (F := (llight_ct n r10)) (llight_ok n r10) (fun _ _ => True.intro) ftL_nil) [(3, true)] [] [0, 1, 5, 16] [0, 1] (s' := ⟨[(0, .c (.wh 0)), (1, .c (.wh 1)), (5, .c (.s (.b r8))), (16, .c (.s (.b true)))], [], [⟨(.ro false), 45, 1, l0.length, .w l0⟩, ⟨(.ro false), 45, 1, l1.length, .w l1⟩]⟩) (by kernel_rfl) (allP_cons.2 ⟨g2, (allP_cons.2 ⟨g3, allP_nil⟩)⟩) ?_
      refine W_cond (b := true) (by kernel_rfl) (fun _ => ?_) (fun hb => by cases hb)
      refine W_seq ?_
      refine W_reg hT ftL_nil [] [] [4] [] (s' := ⟨[(4, .c (.s (.b r8)))], [], []⟩) (by kernel_rfl) allP_nil ?_
      refine W_co [] [4] [] (s' := (lMuls_R r8)) (by kernel_rfl) (W_ret ?_)
      exact ⟨.inl rfl, by cases h; rfl⟩
    · replace h := bif_f h g3
      obtain ⟨r14, g4, h⟩ := bind_some' h
      refine W_reg hT (ftL_cons (k := 1) (f := 12) (F := (llight_ct n r10)) (llight_ok n r10) (fun _ _ => True.intro) (ftL_cons (k := 5) (f := 12) (F := (llight_ct n r14)) (llight_ok n r14) (fun _ _ => True.intro) ftL_nil)) [(3, false)] [] [0, 1, 5, 16] [0, 1] (s' := ⟨[(0, .c (.wh 0)), (1, .c (.wh 1)), (5, .c (.s (.b r8))), (16, .c (.s (.b (!r14))))], [], [⟨(.ro false), 45, 1, l0.length, .w l0⟩, ⟨(.ro false), 45, 1, l1.length, .w l1⟩]⟩) (by kernel_rfl) (allP_cons.2 ⟨g2, (allP_cons.2 ⟨g3, (allP_cons.2 ⟨g4, allP_nil⟩)⟩)⟩) ?_
      refine W_cond (b := (!r14)) (by kernel_rfl) (fun g22 => ?_) (fun g22 => ?_)
      · replace h := bif_t h g22
        refine W_seq ?_
        refine W_reg hT ftL_nil [] [] [4] [] (s' := ⟨[(4, .c (.s (.b r8)))], [], []⟩) (by kernel_rfl) allP_nil ?_
        refine W_co [] [4] [] (s' := (lMuls_R r8)) (by kernel_rfl) (W_ret ?_)
        exact ⟨.inl rfl, by cases h; rfl⟩
      · replace h := bif_f h g22
        refine W_co [] [0, 1, 5] [0, 1] (s' := ⟨[(0, .c (.wh 0)), (1, .c (.wh 1)), (5, .c (.s (.b r8)))], [], [⟨(.ro false), 45, 1, l0.length, .w l0⟩, ⟨(.ro false), 45, 1, l1.length, .w l1⟩]⟩) (by kernel_rfl) (W_skip ?_)
        refine W_seq ?_
        obtain ⟨r21, g5, h⟩ := bind_some' h
        refine W_reg hT (ftL_cons (k := 2) (f := 25) (F := (pMul_ct n r21)) (pMul_ok n r21) (fun _ _ => True.intro) ftL_nil) [] [] [0, 1, 5, 6, 7] [0, 1, 2] (s' := ⟨[(0, .c (.wh 0)), (1, .c (.wh 1)), (5, .c (.s (.b r8))), (6, .c (.wh 2)), (7, .c (.s (.er 30 .i64 r21.2.2)))], [], [⟨(.ro false), 45, 1, l0.length, .w l0⟩, ⟨(.ro false), 45, 1, l1.length, .w l1⟩, ⟨(.ro false), 45, 1, r21.2.1, .w r21.1⟩]⟩) (by kernel_rfl) (allP_cons.2 ⟨g5, allP_nil⟩) ?_
        refine W_seq ?_
        refine W_seq ?_
        obtain ⟨r25, g6, h⟩ := bind_some' h
        rcases Bool.eq_false_or_eq_true (!r25) with g7 | g7
        · replace h := bif_t h g7
          refine W_reg hT (ftL_cons (k := 1) (f := 14) (F := (rMay_ct n r25)) (rMay_ok n r25) (fun _ _ => True.intro) ftL_nil) [(3, true)] [] [0, 1, 5, 6, 7, 31] [0, 1, 2] (s' := ⟨[(0, .c (.wh 0)), (1, .c (.wh 1)), (5, .c (.s (.b r8))), (6, .c (.wh 2)), (7, .c (.s (.er 30 .i64 r21.2.2))), (31, .c (.s (.b true)))], [], [⟨(.ro false), 45, 1, l0.length, .w l0⟩, ⟨(.ro false), 45, 1, l1.length, .w l1⟩, ⟨(.ro false), 45, 1, r21.2.1, .w r21.1⟩]⟩) (by kernel_rfl) (allP_cons.2 ⟨g6, (allP_cons.2 ⟨g7, allP_nil⟩)⟩) ?_
          refine W_cond (b := true) (by kernel_rfl) (fun _ => ?_) (fun hb => by cases hb)
          refine W_seq ?_
          rcases Bool.eq_false_or_eq_true r8 with g8 | g8
          · replace h := bif_t h g8
            obtain ⟨g9, h⟩ := gd_some h
            rcases Bool.eq_false_or_eq_true (r21.2.2 == (some 4)) with g10 | g10
            · replace h := bif_t h g10
              refine W_reg hT ftL_nil [(1, true), (6, true)] [] [4] [] (s' := ⟨[(4, .c (.s (.b (((r21.2.1 : Nat) : Int) == 0))))], [], []⟩) (by kernel_rfl) (allP_cons.2 ⟨g8, (allP_cons.2 ⟨g9, (allP_cons.2 ⟨g10, allP_nil⟩)⟩)⟩) ?_
              refine W_co [] [4] [] (s' := (lMuls_R (((r21.2.1 : Nat) : Int) == 0))) (by kernel_rfl) (W_ret ?_)
              exact ⟨.inl rfl, by cases h; rfl⟩
            · replace h := bif_f h g10
              refine W_reg hT ftL_nil [(1, true), (6, false)] [] [4] [] (s' := ⟨[(4, .c (.s (.b false)))], [], []⟩) (by kernel_rfl) (allP_cons.2 ⟨g8, (allP_cons.2 ⟨g9, (allP_cons.2 ⟨g10, allP_nil⟩)⟩)⟩) ?_
              refine W_co [] [4] [] (s' := (lMuls_R false)) (by kernel_rfl) (W_ret ?_)
              exact ⟨.inl rfl, by cases h; rfl⟩
          · replace h := bif_f h g8
            refine W_reg hT ftL_nil [(1, false)] [] [4] [] (s' := ⟨[(4, .c (.s (.b false)))], [], []⟩) (by kernel_rfl) (allP_cons.2 ⟨g8, allP_nil⟩) ?_
            refine W_co [] [4] [] (s' := (lMuls_R false)) (by kernel_rfl) (W_ret ?_)
            exact ⟨.inl rfl, by cases h; rfl⟩
        · replace h := bif_f h g7
          obtain ⟨r29, g11, h⟩ := bind_some' h
          refine W_reg hT (ftL_cons (k := 1) (f := 14) (F := (rMay_ct n r25)) (rMay_ok n r25) (fun _ _ => True.intro) (ftL_cons (k := 5) (f := 14) (F := (rMay_ct n r29)) (rMay_ok n r29) (fun _ _ => True.intro) ftL_nil)) [(3, false)] [] [0, 1, 5, 6, 7, 31] [0, 1, 2] (s' := ⟨[(0, .c (.wh 0)), (1, .c (.wh 1)), (5, .c (.s (.b r8))), (6, .c (.wh 2)), (7, .c (.s (.er 30 .i64 r21.2.2))), (31, .c (.s (.b (!r29))))], [], [⟨(.ro false), 45, 1, l0.length, .w l0⟩, ⟨(.ro false), 45, 1, l1.length, .w l1⟩, ⟨(.ro false), 45, 1, r21.2.1, .w r21.1⟩]⟩) (by kernel_rfl) (allP_cons.2 ⟨g6, (allP_cons.2 ⟨g7, (allP_cons.2 ⟨g11, allP_nil⟩)⟩)⟩) ?_
          refine W_cond (b := (!r29)) (by kernel_rfl) (fun g21 => ?_) (fun g21 => ?_)
          · replace h := bif_t h g21
            refine W_seq ?_
            rcases Bool.eq_false_or_eq_true r8 with g12 | g12
            · replace h := bif_t h g12
              obtain ⟨g13, h⟩ := gd_some h
              rcases Bool.eq_false_or_eq_true (r21.2.2 == (some 4)) with g14 | g14
              · replace h := bif_t h g14
                refine W_reg hT ftL_nil [(1, true), (6, true)] [] [4] [] (s' := ⟨[(4, .c (.s (.b (((r21.2.1 : Nat) : Int) == 0))))], [], []⟩) (by kernel_rfl) (allP_cons.2 ⟨g12, (allP_cons.2 ⟨g13, (allP_cons.2 ⟨g14, allP_nil⟩)⟩)⟩) ?_
                refine W_co [] [4] [] (s' := (lMuls_R (((r21.2.1 : Nat) : Int) == 0))) (by kernel_rfl) (W_ret ?_)
                exact ⟨.inl rfl, by cases h; rfl⟩
              · replace h := bif_f h g14
                refine W_reg hT ftL_nil [(1, true), (6, false)] [] [4] [] (s' := ⟨[(4, .c (.s (.b false)))], [], []⟩) (by kernel_rfl) (allP_cons.2 ⟨g12, (allP_cons.2 ⟨g13, (allP_cons.2 ⟨g14, allP_nil⟩)⟩)⟩) ?_
                refine W_co [] [4] [] (s' := (lMuls_R false)) (by kernel_rfl) (W_ret ?_)
                exact ⟨.inl rfl, by cases h; rfl⟩
            · replace h := bif_f h g12
              refine W_reg hT ftL_nil [(1, false)] [] [4] [] (s' := ⟨[(4, .c (.s (.b false)))], [], []⟩) (by kernel_rfl) (allP_cons.2 ⟨g12, allP_nil⟩) ?_
              refine W_co [] [4] [] (s' := (lMuls_R false)) (by kernel_rfl) (W_ret ?_)
              exact ⟨.inl rfl, by cases h; rfl⟩
          · replace h := bif_f h g21
            refine W_co [] [0, 1, 5, 6, 7] [0, 1, 2] (s' := ⟨[(0, .c (.wh 0)), (1, .c (.wh 1)), (5, .c (.s (.b r8))), (6, .c (.wh 2)), (7, .c (.s (.er 30 .i64 r21.2.2)))], [], [⟨(.ro false), 45, 1, l0.length, .w l0⟩, ⟨(.ro false), 45, 1, l1.length, .w l1⟩, ⟨(.ro false), 45, 1, r21.2.1, .w r21.1⟩]⟩) (by kernel_rfl) (W_skip ?_)
            refine W_seq ?_
            rcases Bool.eq_false_or_eq_true r8 with g15 | g15
            · replace h := bif_t h g15
              rcases Bool.eq_false_or_eq_true ((r21.2.2).isNone) with g16 | g16
              · replace h := bif_t h g16
                obtain ⟨r51, g17, h⟩ := bind_some' h
                obtain ⟨r53, g18, h⟩ := bind_some' h
                obtain ⟨r54, g19, h⟩ := bind_some' h
                obtain ⟨r55, g20, h⟩ := bind_some' h
                refine W_reg hT (ftL_cons (k := 8) (f := 15) (F := (rOf_ct n r51)) (rOf_ok n r51) (fun _ _ => True.intro) (ftL_cons (k := 10) (f := 15) (F := (rOf_ct n r53)) (rOf_ok n r53) (fun _ _ => True.intro) (ftL_cons (k := 11) (f := 24) (F := (rMul_ct n r54)) (rMul_ok n r54) (fun _ _ => True.intro) (ftL_cons (k := 12) (f := 17) (F := (rSame_ct n r55)) (rSame_ok n r55) (fun _ _ => True.intro) ftL_nil)))) [(1, true), (5, true)] [] [4] [] (s' := ⟨[(4, .c (.s (.b r55)))], [], []⟩) (by kernel_rfl) (allP_cons.2 ⟨g15, (allP_cons.2 ⟨g16, (allP_cons.2 ⟨g17, (allP_cons.2 ⟨g18, (allP_cons.2 ⟨g19, (allP_cons.2 ⟨g20, allP_nil⟩)⟩)⟩)⟩)⟩)⟩) ?_
                refine W_co [] [4] [] (s' := (lMuls_R r55)) (by kernel_rfl) (W_ret ?_)
                exact ⟨.inl rfl, by cases h; rfl⟩
              · replace h := bif_f h g16
                refine W_reg hT ftL_nil [(1, true), (5, false)] [] [4] [] (s' := ⟨[(4, .c (.s (.b false)))], [], []⟩) (by kernel_rfl) (allP_cons.2 ⟨g15, (allP_cons.2 ⟨g16, allP_nil⟩)⟩) ?_
                refine W_co [] [4] [] (s' := (lMuls_R false)) (by kernel_rfl) (W_ret ?_)
                exact ⟨.inl rfl, by cases h; rfl⟩
            · replace h := bif_f h g15
              refine W_reg hT ftL_nil [(1, false)] [] [4] [] (s' := ⟨[(4, .c (.s (.b false)))], [], []⟩) (by kernel_rfl) (allP_cons.2 ⟨g15, allP_nil⟩) ?_
              refine W_co [] [4] [] (s' := (lMuls_R false)) (by kernel_rfl) (W_ret ?_)
              exact ⟨.inl rfl, by cases h; rfl⟩
  · rintro e s' ⟨he, rfl⟩
    refine ⟨he, fun a' w' hr => ?_⟩
    exact retS_ok tabO_nvmuls hr (rs := [.tmp 4]) rfl (objs := []) (by kernel_rfl)
end Go.Proofs.Ytpinmaodpfoinaa
