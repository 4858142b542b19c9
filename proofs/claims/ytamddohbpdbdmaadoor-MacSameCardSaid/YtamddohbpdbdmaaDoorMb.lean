import Derived.Test.YtamddohbpdbdmaaDoorSxX
import Derived.Test.YtamddohbpdbdmaaDoorProg
import Derived.Test.YtamddohbpdbdmaaDoorMa
set_option linter.unusedVariables false
set_option linter.unusedSimpArgs false
namespace Go.Proofs.YtamddohbpdbdmaaDoor
open Go.RowKit Go.Ch Go.Sx

def tabL_mb : List (TypeId × Ti) := [(4, ⟨.bool, 1, 1, true, some [.bool]⟩),
  (5, ⟨.int .u8, 1, 1, true, some [.int .u8]⟩),
  (9, ⟨.str, 1, 16, true, some [.str]⟩),
  (22, ⟨.sl 5, 1, 24, false, some [.nils]⟩)]
def tab_mb : Tab := fun t => (tabL_mb).lookup t
theorem tabE_mb : (tabL_mb.map fun p => tiOf Tryd.prog p.1) = tabL_mb.map fun p => some p.2 := by kernel_rfl
theorem tabO_mb : TabOk Tryd.prog tab_mb := tab_of tabE_mb

def mSame_l1 (n : Nat) (a0 : List UInt8) (a1 : List UInt8) : Nat → UInt8 → Int → Option (Bool)
  | 0, _, _ => none
  | fu_l1 + 1, b5_2, i14_2 =>
    bif (decide (i14_2 < ((a0.length : Nat) : Int))) then
      gd (0 ≤ i14_2) <|
      gd (i14_2 < ((a0.length : Nat) : Int)) <|
      gd (0 ≤ i14_2) <|
      gd (i14_2 < ((a1.length : Nat) : Int)) <|
      gd (okI .i64 (i14_2 + 1)) <|
      (mSame_l1 n a0 a1 fu_l1) (b5_2 ||| ((a0.getD i14_2.toNat 0) ^^^ (a1.getD i14_2.toNat 0))) (i14_2 + 1)
    else
      some (b5_2 == 0)
def mSame (n : Nat) (a0 : List UInt8) (a1 : List UInt8) : Option (Bool) :=
  bif (((a0.length : Nat) : Int) != ((a1.length : Nat) : Int)) then
    some false
  else
    mSame_l1 n a0 a1 n 0 0
def lSame (n : Nat) (a0 : List UInt8) (a1 : List UInt8) : Option (Bool) :=
  (mup n).bind fun r6 =>
  bif r6 then
    (mSame n a0 a1).bind fun r11 =>
    bif (r11 == (a0 == a1)) then
      (mSame n a0 a0).bind fun r22 =>
      some r22
    else
      some false
  else
    some false

def mSame_l1_E (a0 : List UInt8) (a1 : List UInt8) (b5_2 : UInt8) (i14_2 : Int) : S := ⟨[(0, .c (.wh 0)), (1, .c (.wh 1)), (5, .c (.s (.u8 b5_2))), (13, .c (.s (.k .i64 ((a0.length : Nat) : Int)))), (14, .c (.s (.k .i64 i14_2)))], [], [⟨(.ro false), 5, 1, a0.length, .b a0⟩, ⟨(.ro false), 5, 1, a1.length, .b a1⟩]⟩
def mSame_l1_P (n : Nat) (a0 : List UInt8) (a1 : List UInt8) (r : Bool) (fu : Nat) : S → Prop := fun s => ∃ (b5_2 : UInt8), ∃ (i14_2 : Int), s = mSame_l1_E a0 a1 b5_2 i14_2 ∧ mSame_l1 n a0 a1 fu b5_2 i14_2 = some r
theorem mSame_l1_M {n : Nat} {a0 : List UInt8} {a1 : List UInt8} {b5_2 : UInt8} {i14_2 : Int} {r : Bool} {fu : Nat} (h : mSame_l1 n a0 a1 fu b5_2 i14_2 = some r) : mSame_l1_P n a0 a1 r fu (mSame_l1_E a0 a1 b5_2 i14_2) := ⟨b5_2, i14_2, rfl, h⟩
def mSame_R (r : Bool) : S := ⟨[(4, .c (.s (.b r)))], [], []⟩
def mSame_ct (n : Nat) (r : Bool) : Ct := fun args H => match args with
  | [x0, x1] => (match aB H x0 with | some l0 => (match aB H x1 with | some l1 => some ([mSame n l0 l1 = some r], shA H.length (.c (.s (.b r))), shH H.length []) | none => none) | none => none)
  | _ => none
theorem mSame_ok (n : Nat) (r : Bool) : FnOk Tryd.prog Tr 18 (mSame_ct n r) := by
  refine ⟨fun args H g av objs hF hg ρ w vals hG hp ha => ?_, _, Tryd.func18, by kernel_rfl, by kernel_rfl⟩
  obtain ⟨x0, x1, rfl⟩ : ∃ x0 x1, args = [x0, x1] := by
    unfold mSame_ct at hF; split at hF
    · exact ⟨_, _, rfl⟩
    · cases hF
  cases e0 : aB H x0 with
  | none => simp only [mSame_ct, e0, reduceCtorEq] at hF
  | some l0 =>
  cases e1 : aB H x1 with
  | none => simp only [mSame_ct, e0, e1, reduceCtorEq] at hF
  | some l1 =>
  simp only [mSame_ct, e0, e1, Option.some.injEq, Prod.mk.injEq] at hF
  obtain ⟨rfl, rfl, rfl⟩ := hF
  obtain ⟨v0, vals, rfl, k0, ha⟩ := F2.inv ha
  obtain ⟨v1, vals, rfl, k1, ha⟩ := F2.inv ha
  obtain rfl := F2.inv0 ha
  have hI : ∀ w', Kp (noB (fun _ => undef)) w w' → Tr w' := fun _ hk => Tr.keep hk.below hG
  have h : mSame n l0 l1 = some r := hg
  obtain ⟨p0, s0, o0⟩ := aB_ok hp e0 (k0) 5
  obtain ⟨p1, s1, o1⟩ := aB_ok hp e1 (k1) 5
  have hR0 := rel0 (gv := (fun _ => undef)) (n := 31) (w := w) (args := [.c (.wh 0), .c (.wh 1)]) (H := [⟨.ro false, 5, 1, l0.length, .b l0⟩, ⟨.ro false, 5, 1, l1.length, .b l1⟩]) (gl := []) (hpL (ps := [p0, p1]) (F2.cons o0 (F2.cons o1 F2.nil))) (allRo_ok rfl) (F2.cons s0 (F2.cons s1 F2.nil)) GlR.nil (by simp)
  clear ha hp hg k0 k1 e0 e1
  refine calls_W Tryd.func18 rfl rfl hR0 (Q := fun e s => (e = .ret ∨ e = .normal) ∧ s = mSame_R r) ?_ ?_
  · clear hR0
    unfold mSame at h
    have hT := tabO_mb
    refine W_seq ?_
    refine W_reg hT ftL_nil [] [] [0, 1] [0, 1] (s' := ⟨[(0, .c (.wh 0)), (1, .c (.wh 1))], [], [⟨(.ro false), 5, 1, l0.length, .b l0⟩, ⟨(.ro false), 5, 1, l1.length, .b l1⟩]⟩) (by kernel_rfl) allP_nil ?_
    refine W_seq ?_
    refine W_seq ?_
    refine W_reg hT ftL_nil [] [] [0, 1, 11] [0, 1] (s' := ⟨[(0, .c (.wh 0)), (1, .c (.wh 1)), (11, .c (.s (.b (((l0.length : Nat) : Int) != ((l1.length : Nat) : Int)))))], [], [⟨(.ro false), 5, 1, l0.length, .b l0⟩, ⟨(.ro false), 5, 1, l1.length, .b l1⟩]⟩) (by kernel_rfl) allP_nil ?_
    refine W_cond (b := (((l0.length : Nat) : Int) != ((l1.length : Nat) : Int))) (by kernel_rfl) (fun g7 => ?_) (fun g7 => ?_)
    · replace h := bif_t h g7
      refine W_seq ?_
      refine W_reg hT ftL_nil [] [] [4] [] (s' := ⟨[(4, .c (.s (.b false)))], [], []⟩) (by kernel_rfl) allP_nil ?_
      refine W_co [] [4] [] (s' := (mSame_R false)) (by kernel_rfl) (W_ret ?_)
      exact ⟨.inl rfl, by cases h; rfl⟩
    · replace h := bif_f h g7
      refine W_co [] [0, 1] [0, 1] (s' := ⟨[(0, .c (.wh 0)), (1, .c (.wh 1))], [], [⟨(.ro false), 5, 1, l0.length, .b l0⟩, ⟨(.ro false), 5, 1, l1.length, .b l1⟩]⟩) (by kernel_rfl) (W_skip ?_)
      refine W_seq ?_
      refine W_reg hT ftL_nil [] [] [0, 1, 5] [0, 1] (s' := ⟨[(0, .c (.wh 0)), (1, .c (.wh 1)), (5, .c (.s (.u8 0)))], [], [⟨(.ro false), 5, 1, l0.length, .b l0⟩, ⟨(.ro false), 5, 1, l1.length, .b l1⟩]⟩) (by kernel_rfl) allP_nil ?_
      refine W_seq ?_
      refine W_seq ?_
      refine W_reg hT ftL_nil [] [] [0, 1, 5, 13, 14] [0, 1] (s' := ⟨[(0, .c (.wh 0)), (1, .c (.wh 1)), (5, .c (.s (.u8 0))), (13, .c (.s (.k .i64 ((l0.length : Nat) : Int)))), (14, .c (.s (.k .i64 0)))], [], [⟨(.ro false), 5, 1, l0.length, .b l0⟩, ⟨(.ro false), 5, 1, l1.length, .b l1⟩]⟩) (by kernel_rfl) allP_nil ?_
      refine W_block ?_
      refine W_co [] [0, 1, 5, 13, 14] [0, 1] (s' := (mSame_l1_E l0 l1 0 0)) (by kernel_rfl) (W_lp ((mSame_l1_P n l0 l1 r)) n (mSame_l1_M h) ?_)
      rintro fu_l1 _ ⟨b5_2, i14_2, rfl, h⟩
      cases fu_l1 with
      | zero => cases h
      | succ fu_l1 =>
        refine ⟨fu_l1, rfl, ?_⟩
        rw [mSame_l1] at h
        refine W_seq ?_
        refine W_reg hT ftL_nil [] [] [0, 1, 5, 13, 14, 15] [0, 1] (s' := ⟨[(0, .c (.wh 0)), (1, .c (.wh 1)), (5, .c (.s (.u8 b5_2))), (13, .c (.s (.k .i64 ((l0.length : Nat) : Int)))), (14, .c (.s (.k .i64 i14_2))), (15, .c (.s (.b (decide (i14_2 < ((l0.length : Nat) : Int))))))], [], [⟨(.ro false), 5, 1, l0.length, .b l0⟩, ⟨(.ro false), 5, 1, l1.length, .b l1⟩]⟩) (by kernel_rfl) allP_nil ?_
        refine W_seq ?_
        refine W_cond (b := (decide (i14_2 < ((l0.length : Nat) : Int)))) (by kernel_rfl) (fun g6 => ?_) (fun g6 => ?_)
        · replace h := bif_t h g6
          refine W_co [] [0, 1, 5, 13, 14] [0, 1] (s' := ⟨[(0, .c (.wh 0)), (1, .c (.wh 1)), (5, .c (.s (.u8 b5_2))), (13, .c (.s (.k .i64 ((l0.length : Nat) : Int)))), (14, .c (.s (.k .i64 i14_2)))], [], [⟨(.ro false), 5, 1, l0.length, .b l0⟩, ⟨(.ro false), 5, 1, l1.length, .b l1⟩]⟩) (by kernel_rfl) (W_skip ?_)
          refine W_seq ?_
          refine W_block ?_
          refine W_seq ?_
          refine W_reg hT ftL_nil [] [] [0, 1, 5, 6, 13, 14] [0, 1] (s' := ⟨[(0, .c (.wh 0)), (1, .c (.wh 1)), (5, .c (.s (.u8 b5_2))), (6, .c (.s (.k .i64 i14_2))), (13, .c (.s (.k .i64 ((l0.length : Nat) : Int)))), (14, .c (.s (.k .i64 i14_2)))], [], [⟨(.ro false), 5, 1, l0.length, .b l0⟩, ⟨(.ro false), 5, 1, l1.length, .b l1⟩]⟩) (by kernel_rfl) allP_nil ?_
          obtain ⟨g1, h⟩ := gd_some h
          obtain ⟨g2, h⟩ := gd_some h
          obtain ⟨g3, h⟩ := gd_some h
          obtain ⟨g4, h⟩ := gd_some h
          refine W_regD hT ftL_nil (by kernel_rfl) 10 [] [(0, false), (1, false), (5, false), (13, false), (14, false), (17, false), (26, false)] [] [0, 1, 5, 13, 14] [0, 1] (s' := ⟨[(0, .c (.wh 0)), (1, .c (.wh 1)), (5, .c (.s (.u8 (b5_2 ||| ((l0.getD i14_2.toNat 0) ^^^ (l1.getD i14_2.toNat 0)))))), (13, .c (.s (.k .i64 ((l0.length : Nat) : Int)))), (14, .c (.s (.k .i64 i14_2)))], [], [⟨(.ro false), 5, 1, l0.length, .b l0⟩, ⟨(.ro false), 5, 1, l1.length, .b l1⟩]⟩) (by kernel_rfl) (by kernel_rfl) (allP_cons.2 ⟨g1, (allP_cons.2 ⟨g2, (allP_cons.2 ⟨g3, (allP_cons.2 ⟨g4, allP_nil⟩)⟩)⟩)⟩) ?_
          obtain ⟨g5, h⟩ := gd_some h
          refine W_reg hT ftL_nil [] [] [0, 1, 5, 13, 14] [0, 1] (s' := (mSame_l1_E l0 l1 (b5_2 ||| ((l0.getD i14_2.toNat 0) ^^^ (l1.getD i14_2.toNat 0))) (i14_2 + 1))) (by kernel_rfl) (allP_cons.2 ⟨g5, allP_nil⟩) ?_
          exact mSame_l1_M h
        · replace h := bif_f h g6
          refine W_co [] [5] [] (s' := ⟨[(5, .c (.s (.u8 b5_2)))], [], []⟩) (by kernel_rfl) (W_exit ?_)
          refine W_seq ?_
          refine W_reg hT ftL_nil [] [] [4] [] (s' := ⟨[(4, .c (.s (.b (b5_2 == 0))))], [], []⟩) (by kernel_rfl) allP_nil ?_
          refine W_co [] [4] [] (s' := (mSame_R (b5_2 == 0))) (by kernel_rfl) (W_ret ?_)
          exact ⟨.inl rfl, by cases h; rfl⟩
  · rintro e s' ⟨he, rfl⟩
    refine ⟨he, fun a' w' hr => ?_⟩
    exact retS_ok tabO_mb hr (rs := [.tmp 4]) rfl (objs := []) (by kernel_rfl)
def lSame_R (r : Bool) : S := ⟨[(4, .c (.s (.b r)))], [], []⟩
def lSame_ct (n : Nat) (r : Bool) : Ct := fun args H => match args with
  | [x0, x1] => (match aB H x0 with | some l0 => (match aB H x1 with | some l1 => some ([lSame n l0 l1 = some r], shA H.length (.c (.s (.b r))), shH H.length []) | none => none) | none => none)
  | _ => none
theorem lSame_ok (n : Nat) (r : Bool) : FnOk Tryd.prog GK 6 (lSame_ct n r) := by
  refine ⟨fun args H g av objs hF hg ρ w vals hG hp ha => ?_, _, Tryd.func6, by kernel_rfl, by kernel_rfl⟩
  obtain ⟨x0, x1, rfl⟩ : ∃ x0 x1, args = [x0, x1] := by
    unfold lSame_ct at hF; split at hF
    · exact ⟨_, _, rfl⟩
    · cases hF
  cases e0 : aB H x0 with
  | none => simp only [lSame_ct, e0, reduceCtorEq] at hF
  | some l0 =>
  cases e1 : aB H x1 with
  | none => simp only [lSame_ct, e0, e1, reduceCtorEq] at hF
  | some l1 =>
  simp only [lSame_ct, e0, e1, Option.some.injEq, Prod.mk.injEq] at hF
  obtain ⟨rfl, rfl, rfl⟩ := hF
  obtain ⟨v0, vals, rfl, k0, ha⟩ := F2.inv ha
  obtain ⟨v1, vals, rfl, k1, ha⟩ := F2.inv ha
  obtain rfl := F2.inv0 ha
  have hI : ∀ w', Kp (noB (fun _ => undef)) w w' → GK w' := fun _ hk => GK.keep hk.below hG
  have h : lSame n l0 l1 = some r := hg
  obtain ⟨p0, s0, o0⟩ := aB_ok hp e0 (k0) 5
  obtain ⟨p1, s1, o1⟩ := aB_ok hp e1 (k1) 5
  have hR0 := rel0 (gv := (fun _ => undef)) (n := 24) (w := w) (args := [.c (.wh 0), .c (.wh 1)]) (H := [⟨.ro false, 5, 1, l0.length, .b l0⟩, ⟨.ro false, 5, 1, l1.length, .b l1⟩]) (gl := []) (hpL (ps := [p0, p1]) (F2.cons o0 (F2.cons o1 F2.nil))) (allRo_ok rfl) (F2.cons s0 (F2.cons s1 F2.nil)) GlR.nil (by simp)
  clear ha hp hg k0 k1 e0 e1
  refine calls_W Tryd.func6 rfl rfl hR0 (Q := fun e s => (e = .ret ∨ e = .normal) ∧ s = lSame_R r) ?_ ?_
  · clear hR0
    unfold lSame at h
    have hT := tabO_mb
    refine W_seq ?_
    refine W_reg hT ftL_nil [] [] [0, 1] [0, 1] (s' := ⟨[(0, .c (.wh 0)), (1, .c (.wh 1))], [], [⟨(.ro false), 5, 1, l0.length, .b l0⟩, ⟨(.ro false), 5, 1, l1.length, .b l1⟩]⟩) (by kernel_rfl) allP_nil ?_
    refine W_seq ?_
    obtain ⟨r6, g1, h⟩ := bind_some' h
    refine W_reg hT (ftL_cons (k := 0) (f := 9) (F := (mup_ct n r6)) (mup_ok n r6) hI ftL_nil) [] [] [0, 1, 5] [0, 1] (s' := ⟨[(0, .c (.wh 0)), (1, .c (.wh 1)), (5, .c (.s (.b r6)))], [], [⟨(.ro false), 5, 1, l0.length, .b l0⟩, ⟨(.ro false), 5, 1, l1.length, .b l1⟩]⟩) (by kernel_rfl) (allP_cons.2 ⟨g1, allP_nil⟩) ?_
    refine W_seq ?_
    rcases Bool.eq_false_or_eq_true r6 with g2 | g2
    · replace h := bif_t h g2
      obtain ⟨r11, g3, h⟩ := bind_some' h
      rcases Bool.eq_false_or_eq_true (r11 == (l0 == l1)) with g4 | g4
      · replace h := bif_t h g4
        obtain ⟨r22, g5, h⟩ := bind_some' h
        refine W_regD hT (ftL_cons (k := 4) (f := 18) (F := (mSame_ct n r11)) (mSame_ok n r11) (fun _ _ => True.intro) (ftL_cons (k := 15) (f := 18) (F := (mSame_ct n r22)) (mSame_ok n r22) (fun _ _ => True.intro) ftL_nil)) (by kernel_rfl) 15 [(1, true), (12, true)] [(19, false), (20, false), (21, false)] [] [4] [] (s' := ⟨[(4, .c (.s (.b r22)))], [], []⟩) (by kernel_rfl) (by kernel_rfl) (allP_cons.2 ⟨g2, (allP_cons.2 ⟨g3, (allP_cons.2 ⟨g4, (allP_cons.2 ⟨g5, allP_nil⟩)⟩)⟩)⟩) ?_
        refine W_co [] [4] [] (s' := (lSame_R r22)) (by kernel_rfl) (W_ret ?_)
        exact ⟨.inl rfl, by cases h; rfl⟩
      · replace h := bif_f h g4
        refine W_regD hT (ftL_cons (k := 4) (f := 18) (F := (mSame_ct n r11)) (mSame_ok n r11) (fun _ _ => True.intro) ftL_nil) (by kernel_rfl) 15 [(1, true), (12, false)] [(19, false), (20, false), (21, false)] [] [4] [] (s' := ⟨[(4, .c (.s (.b false)))], [], []⟩) (by kernel_rfl) (by kernel_rfl) (allP_cons.2 ⟨g2, (allP_cons.2 ⟨g3, (allP_cons.2 ⟨g4, allP_nil⟩)⟩)⟩) ?_
        refine W_co [] [4] [] (s' := (lSame_R false)) (by kernel_rfl) (W_ret ?_)
        exact ⟨.inl rfl, by cases h; rfl⟩
    · replace h := bif_f h g2
      refine W_regD hT ftL_nil (by kernel_rfl) 15 [(1, false)] [(19, false), (20, false), (21, false)] [] [4] [] (s' := ⟨[(4, .c (.s (.b false)))], [], []⟩) (by kernel_rfl) (by kernel_rfl) (allP_cons.2 ⟨g2, allP_nil⟩) ?_
      refine W_co [] [4] [] (s' := (lSame_R false)) (by kernel_rfl) (W_ret ?_)
      exact ⟨.inl rfl, by cases h; rfl⟩
  · rintro e s' ⟨he, rfl⟩
    refine ⟨he, fun a' w' hr => ?_⟩
    exact retS_ok tabO_mb hr (rs := [.tmp 4]) rfl (objs := []) (by kernel_rfl)
end Go.Proofs.YtamddohbpdbdmaaDoor
