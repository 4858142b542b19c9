import Derived.Test.YtliilihbnhdemaaSxX
import Derived.Test.YtliilihbnhdemaaProg
import Derived.Test.YtliilihbnhdemaaPr
set_option linter.unusedVariables false
set_option linter.unusedSimpArgs false
namespace Go.Proofs.Ytliilihbnhdemaa
open Go.RowKit Go.Ch Go.Sx

def tabL_pi : List (TypeId × Ti) := [(2, ⟨.int .i64, 1, 8, true, some [.int .i64]⟩),
  (5, ⟨.int .u8, 1, 1, true, some [.int .u8]⟩),
  (22, ⟨.sl 5, 1, 24, false, some [.nils]⟩),
  (28, ⟨.ifc, 1, 16, true, some [.ifc]⟩),
  (31, ⟨.int .i64, 1, 8, true, some [.int .i64]⟩)]
def tab_pi : Tab := fun t => (tabL_pi).lookup t
theorem tabE_pi : (tabL_pi.map fun p => tiOf Try.prog p.1) = tabL_pi.map fun p => some p.2 := by kernel_rfl
theorem tabO_pi : TabOk Try.prog tab_pi := tab_of tabE_pi

def rNumber (n : Nat) (a0 : List UInt8) : Option (Bool) :=
  bif (((a0.length : Nat) : Int) == 0) then
    some false
  else
    bif (((a0.length : Nat) : Int) == 1) then
      some true
    else
      gd (0 ≤ (0 : Int)) <|
      gd ((0 : Int) < ((a0.length : Nat) : Int)) <|
      bif ((a0.getD 0 0) == 0) then
        gd (0 ≤ (1 : Int)) <|
        gd ((1 : Int) < ((a0.length : Nat) : Int)) <|
        bif (!(decide ((a0.getD 1 0) < (128 : UInt8)))) then
          gd (0 ≤ (0 : Int)) <|
          gd ((0 : Int) < ((a0.length : Nat) : Int)) <|
          bif ((a0.getD 0 0) == 255) then
            gd (0 ≤ (1 : Int)) <|
            gd ((1 : Int) < ((a0.length : Nat) : Int)) <|
            some (!(decide ((128 : UInt8) ≤ (a0.getD 1 0))))
          else
            some true
        else
          some false
      else
        gd (0 ≤ (0 : Int)) <|
        gd ((0 : Int) < ((a0.length : Nat) : Int)) <|
        bif ((a0.getD 0 0) == 255) then
          gd (0 ≤ (1 : Int)) <|
          gd ((1 : Int) < ((a0.length : Nat) : Int)) <|
          some (!(decide ((128 : UInt8) ≤ (a0.getD 1 0))))
        else
          some true
def rValue_l1 (n : Nat) (a0 : List UInt8) : Nat → Int → Int → Option (Int)
  | 0, _, _ => none
  | fu_l1 + 1, i3_5, i4_2 =>
    bif (decide (i4_2 < ((a0.length : Nat) : Int))) then
      gd (okI .i64 (i3_5 * 256)) <|
      gd (0 ≤ i4_2) <|
      gd (i4_2 < ((a0.length : Nat) : Int)) <|
      gd (okI .i64 ((i3_5 * 256) + (((a0.getD i4_2.toNat 0).toNat : Nat) : Int))) <|
      gd (okI .i64 (i4_2 + 1)) <|
      (rValue_l1 n a0 fu_l1) ((i3_5 * 256) + (((a0.getD i4_2.toNat 0).toNat : Nat) : Int)) (i4_2 + 1)
    else
      some i3_5
def rValue_j1 (n : Nat) (a0 : List UInt8) (i3_4 : Int) : Option (Int) :=
  rValue_l1 n a0 n i3_4 0
def rValue (n : Nat) (a0 : List UInt8) : Option (Int) :=
  gd (0 ≤ (0 : Int)) <|
  gd ((0 : Int) < ((a0.length : Nat) : Int)) <|
  bif (decide ((128 : UInt8) ≤ (a0.getD 0 0))) then
    rValue_j1 n a0 (-1)
  else
    rValue_j1 n a0 0
def lInts (n : Nat) (a0 : Int) (a1 : List UInt8) : Option (Bool) :=
  (pup n).bind fun r11 =>
  (pInt n a0).bind fun r13 =>
  (rNumber n r13).bind fun r15 =>
  bif (!r15) then
    some false
  else
    bif (decide ((8 : Int) < ((r13.length : Nat) : Int))) then
      some false
    else
      (rValue n r13).bind fun r25 =>
      bif (r25 != a0) then
        some false
      else
        (pReadInt n a1).bind fun r31 =>
        (rNumber n a1).bind fun r35 =>
        bif (!r35) then
          bif r11 then
            gd (¬((r31.2 : Option Int) = none ∧ ((some 2) : Option Int) = none)) <|
            bif (r31.2 == (some 2)) then
              some (r31.1 == 0)
            else
              some false
          else
            some false
        else
          bif (decide ((8 : Int) < ((a1.length : Nat) : Int))) then
            bif r11 then
              gd (¬((r31.2 : Option Int) = none ∧ ((some 4) : Option Int) = none)) <|
              bif (r31.2 == (some 4)) then
                some (r31.1 == 0)
              else
                some false
            else
              some false
          else
            bif r11 then
              bif ((r31.2).isNone) then
                (rValue n a1).bind fun r69 =>
                some (r31.1 == r69)
              else
                some false
            else
              some false

def rNumber_R (r : Bool) : S := ⟨[(2, .c (.s (.b r)))], [], []⟩
def rNumber_ct (n : Nat) (r : Bool) : Ct := fun args H => match args with
  | [x0] => (match aB H x0 with | some l0 => some ([rNumber n l0 = some r], shA H.length (.c (.s (.b r))), shH H.length []) | none => none)
  | _ => none
theorem rNumber_ok (n : Nat) (r : Bool) : FnOk Try.prog Tr 16 (rNumber_ct n r) := by
  refine ⟨fun args H g av objs hF hg ρ w vals hG hp ha => ?_, _, Try.func16, by kernel_rfl, by kernel_rfl⟩
  obtain ⟨x0, rfl⟩ : ∃ x0, args = [x0] := by
    unfold rNumber_ct at hF; split at hF
    · exact ⟨_, rfl⟩
    · cases hF
  cases e0 : aB H x0 with
  | none => simp only [rNumber_ct, e0, reduceCtorEq] at hF
  | some l0 =>
  simp only [rNumber_ct, e0, Option.some.injEq, Prod.mk.injEq] at hF
  obtain ⟨rfl, rfl, rfl⟩ := hF
  obtain ⟨v0, vals, rfl, k0, ha⟩ := F2.inv ha
  obtain rfl := F2.inv0 ha
  have hI : ∀ w', Kp (noB (fun _ => undef)) w w' → Tr w' := fun _ hk => Tr.keep hk.below hG
  have h : rNumber n l0 = some r := hg
  obtain ⟨p0, s0, o0⟩ := aB_ok hp e0 (k0) 5
  have hR0 := rel0 (gv := (fun _ => undef)) (n := 33) (w := w) (args := [.c (.wh 0)]) (H := [⟨.ro false, 5, 1, l0.length, .b l0⟩]) (gl := []) (hpL (ps := [p0]) (F2.cons o0 F2.nil)) (allRo_ok rfl) (F2.cons s0 F2.nil) GlR.nil (by simp)
  clear ha hp hg k0 e0
  refine calls_W Try.func16 rfl rfl hR0 (Q := fun e s => (e = .ret ∨ e = .normal) ∧ s = rNumber_R r) ?_ ?_
  · clear hR0
    unfold rNumber at h
    have hT := tabO_pi
    refine W_seq ?_
    refine W_reg hT ftL_nil [] [] [0] [0] (s' := ⟨[(0, .c (.wh 0))], [], [⟨(.ro false), 5, 1, l0.length, .b l0⟩]⟩) (by kernel_rfl) allP_nil ?_
    refine W_seq ?_
    refine W_seq ?_
    refine W_reg hT ftL_nil [] [] [0, 5] [0] (s' := ⟨[(0, .c (.wh 0)), (5, .c (.s (.b (((l0.length : Nat) : Int) == 0))))], [], [⟨(.ro false), 5, 1, l0.length, .b l0⟩]⟩) (by kernel_rfl) allP_nil ?_
    refine W_cond (b := (((l0.length : Nat) : Int) == 0)) (by kernel_rfl) (fun g18 => ?_) (fun g18 => ?_)
    · replace h := bif_t h g18
      refine W_seq ?_
      refine W_reg hT ftL_nil [] [] [2] [] (s' := ⟨[(2, .c (.s (.b false)))], [], []⟩) (by kernel_rfl) allP_nil ?_
      refine W_co [] [2] [] (s' := (rNumber_R false)) (by kernel_rfl) (W_ret ?_)
      exact ⟨.inl rfl, by cases h; rfl⟩
    · replace h := bif_f h g18
      refine W_co [] [0] [0] (s' := ⟨[(0, .c (.wh 0))], [], [⟨(.ro false), 5, 1, l0.length, .b l0⟩]⟩) (by kernel_rfl) (W_skip ?_)
      refine W_seq ?_
      refine W_seq ?_
      refine W_reg hT ftL_nil [] [] [0, 8] [0] (s' := ⟨[(0, .c (.wh 0)), (8, .c (.s (.b (((l0.length : Nat) : Int) == 1))))], [], [⟨(.ro false), 5, 1, l0.length, .b l0⟩]⟩) (by kernel_rfl) allP_nil ?_
      refine W_cond (b := (((l0.length : Nat) : Int) == 1)) (by kernel_rfl) (fun g17 => ?_) (fun g17 => ?_)
      · replace h := bif_t h g17
        refine W_seq ?_
        refine W_reg hT ftL_nil [] [] [2] [] (s' := ⟨[(2, .c (.s (.b true)))], [], []⟩) (by kernel_rfl) allP_nil ?_
        refine W_co [] [2] [] (s' := (rNumber_R true)) (by kernel_rfl) (W_ret ?_)
        exact ⟨.inl rfl, by cases h; rfl⟩
      · replace h := bif_f h g17
        refine W_co [] [0] [0] (s' := ⟨[(0, .c (.wh 0))], [], [⟨(.ro false), 5, 1, l0.length, .b l0⟩]⟩) (by kernel_rfl) (W_skip ?_)
        refine W_seq ?_
        obtain ⟨g1, h⟩ := gd_some h
        obtain ⟨g2, h⟩ := gd_some h
        rcases Bool.eq_false_or_eq_true ((l0.getD 0 0) == 0) with g3 | g3
        · replace h := bif_t h g3
          obtain ⟨g4, h⟩ := gd_some h
          obtain ⟨g5, h⟩ := gd_some h
          rcases Bool.eq_false_or_eq_true (!(decide ((l0.getD 1 0) < (128 : UInt8)))) with g6 | g6
          · replace h := bif_t h g6
            obtain ⟨g7, h⟩ := gd_some h
            obtain ⟨g8, h⟩ := gd_some h
            rcases Bool.eq_false_or_eq_true ((l0.getD 0 0) == 255) with g9 | g9
            · replace h := bif_t h g9
              obtain ⟨g10, h⟩ := gd_some h
              obtain ⟨g11, h⟩ := gd_some h
              refine W_reg hT ftL_nil [(4, true), (11, true), (16, true)] [] [2] [] (s' := ⟨[(2, .c (.s (.b (!(decide ((128 : UInt8) ≤ (l0.getD 1 0)))))))], [], []⟩) (by kernel_rfl) (allP_cons.2 ⟨g1, (allP_cons.2 ⟨g2, (allP_cons.2 ⟨g3, (allP_cons.2 ⟨g4, (allP_cons.2 ⟨g5, (allP_cons.2 ⟨g6, (allP_cons.2 ⟨g7, (allP_cons.2 ⟨g8, (allP_cons.2 ⟨g9, (allP_cons.2 ⟨g10, (allP_cons.2 ⟨g11, allP_nil⟩)⟩)⟩)⟩)⟩)⟩)⟩)⟩)⟩)⟩)⟩) ?_
              refine W_co [] [2] [] (s' := (rNumber_R (!(decide ((128 : UInt8) ≤ (l0.getD 1 0)))))) (by kernel_rfl) (W_ret ?_)
              exact ⟨.inl rfl, by cases h; rfl⟩
            · replace h := bif_f h g9
              refine W_reg hT ftL_nil [(4, true), (11, true), (16, false)] [] [2] [] (s' := ⟨[(2, .c (.s (.b true)))], [], []⟩) (by kernel_rfl) (allP_cons.2 ⟨g1, (allP_cons.2 ⟨g2, (allP_cons.2 ⟨g3, (allP_cons.2 ⟨g4, (allP_cons.2 ⟨g5, (allP_cons.2 ⟨g6, (allP_cons.2 ⟨g7, (allP_cons.2 ⟨g8, (allP_cons.2 ⟨g9, allP_nil⟩)⟩)⟩)⟩)⟩)⟩)⟩)⟩)⟩) ?_
              refine W_co [] [2] [] (s' := (rNumber_R true)) (by kernel_rfl) (W_ret ?_)
              exact ⟨.inl rfl, by cases h; rfl⟩
          · replace h := bif_f h g6
            refine W_reg hT ftL_nil [(4, true), (11, false)] [] [2] [] (s' := ⟨[(2, .c (.s (.b false)))], [], []⟩) (by kernel_rfl) (allP_cons.2 ⟨g1, (allP_cons.2 ⟨g2, (allP_cons.2 ⟨g3, (allP_cons.2 ⟨g4, (allP_cons.2 ⟨g5, (allP_cons.2 ⟨g6, allP_nil⟩)⟩)⟩)⟩)⟩)⟩) ?_
            refine W_co [] [2] [] (s' := (rNumber_R false)) (by kernel_rfl) (W_ret ?_)
            exact ⟨.inl rfl, by cases h; rfl⟩
        · replace h := bif_f h g3
          obtain ⟨g12, h⟩ := gd_some h
          obtain ⟨g13, h⟩ := gd_some h
          rcases Bool.eq_false_or_eq_true ((l0.getD 0 0) == 255) with g14 | g14
          · replace h := bif_t h g14
            obtain ⟨g15, h⟩ := gd_some h
            obtain ⟨g16, h⟩ := gd_some h
            refine W_reg hT ftL_nil [(4, false), (16, true)] [] [2] [] (s' := ⟨[(2, .c (.s (.b (!(decide ((128 : UInt8) ≤ (l0.getD 1 0)))))))], [], []⟩) (by kernel_rfl) (allP_cons.2 ⟨g1, (allP_cons.2 ⟨g2, (allP_cons.2 ⟨g3, (allP_cons.2 ⟨g12, (allP_cons.2 ⟨g13, (allP_cons.2 ⟨g14, (allP_cons.2 ⟨g15, (allP_cons.2 ⟨g16, allP_nil⟩)⟩)⟩)⟩)⟩)⟩)⟩)⟩) ?_
            refine W_co [] [2] [] (s' := (rNumber_R (!(decide ((128 : UInt8) ≤ (l0.getD 1 0)))))) (by kernel_rfl) (W_ret ?_)
            exact ⟨.inl rfl, by cases h; rfl⟩
          · replace h := bif_f h g14
            refine W_reg hT ftL_nil [(4, false), (16, false)] [] [2] [] (s' := ⟨[(2, .c (.s (.b true)))], [], []⟩) (by kernel_rfl) (allP_cons.2 ⟨g1, (allP_cons.2 ⟨g2, (allP_cons.2 ⟨g3, (allP_cons.2 ⟨g12, (allP_cons.2 ⟨g13, (allP_cons.2 ⟨g14, allP_nil⟩)⟩)⟩)⟩)⟩)⟩) ?_
            refine W_co [] [2] [] (s' := (rNumber_R true)) (by kernel_rfl) (W_ret ?_)
            exact ⟨.inl rfl, by cases h; rfl⟩
  · rintro e s' ⟨he, rfl⟩
    refine ⟨he, fun a' w' hr => ?_⟩
    exact retS_ok tabO_pi hr (rs := [.tmp 2]) rfl (objs := []) (by kernel_rfl)
def rValue_l1_E (a0 : List UInt8) (i3_5 : Int) (i4_2 : Int) : S := ⟨[(0, .c (.wh 0)), (3, .c (.s (.k .i64 i3_5))), (4, .c (.s (.k .i64 i4_2)))], [], [⟨(.ro false), 5, 1, a0.length, .b a0⟩]⟩
def rValue_l1_P (n : Nat) (a0 : List UInt8) (r : Int) (fu : Nat) : S → Prop := fun s => ∃ (i3_5 : Int), ∃ (i4_2 : Int), s = rValue_l1_E a0 i3_5 i4_2 ∧ rValue_l1 n a0 fu i3_5 i4_2 = some r
theorem rValue_l1_M {n : Nat} {a0 : List UInt8} {i3_5 : Int} {i4_2 : Int} {r : Int} {fu : Nat} (h : rValue_l1 n a0 fu i3_5 i4_2 = some r) : rValue_l1_P n a0 r fu (rValue_l1_E a0 i3_5 i4_2) := ⟨i3_5, i4_2, rfl, h⟩
def rValue_j1_E (a0 : List UInt8) (i3_4 : Int) : S := ⟨[(0, .c (.wh 0)), (3, .c (.s (.k .i64 i3_4)))], [], [⟨(.ro false), 5, 1, a0.length, .b a0⟩]⟩
def rValue_j1_P (n : Nat) (a0 : List UInt8) (r : Int) : S → Prop := fun s => ∃ (i3_4 : Int), s = rValue_j1_E a0 i3_4 ∧ rValue_j1 n a0 i3_4 = some r
theorem rValue_j1_M {n : Nat} {a0 : List UInt8} {i3_4 : Int} {r : Int} (h : rValue_j1 n a0 i3_4 = some r) : rValue_j1_P n a0 r (rValue_j1_E a0 i3_4) := ⟨i3_4, rfl, h⟩
def rValue_R (r : Int) : S := ⟨[(2, .c (.s (.k .i64 r)))], [], []⟩
def rValue_ct (n : Nat) (r : Int) : Ct := fun args H => match args with
  | [x0] => (match aB H x0 with | some l0 => some ([rValue n l0 = some r], shA H.length (.c (.s (.k .i64 r))), shH H.length []) | none => none)
  | _ => none
theorem rValue_ok (n : Nat) (r : Int) : FnOk Try.prog Tr 17 (rValue_ct n r) := by
  refine ⟨fun args H g av objs hF hg ρ w vals hG hp ha => ?_, _, Try.func17, by kernel_rfl, by kernel_rfl⟩
  obtain ⟨x0, rfl⟩ : ∃ x0, args = [x0] := by
    unfold rValue_ct at hF; split at hF
    · exact ⟨_, rfl⟩
    · cases hF
  cases e0 : aB H x0 with
  | none => simp only [rValue_ct, e0, reduceCtorEq] at hF
  | some l0 =>
  simp only [rValue_ct, e0, Option.some.injEq, Prod.mk.injEq] at hF
  obtain ⟨rfl, rfl, rfl⟩ := hF
  obtain ⟨v0, vals, rfl, k0, ha⟩ := F2.inv ha
  obtain rfl := F2.inv0 ha
  have hI : ∀ w', Kp (noB (fun _ => undef)) w w' → Tr w' := fun _ hk => Tr.keep hk.below hG
  have h : rValue n l0 = some r := hg
  obtain ⟨p0, s0, o0⟩ := aB_ok hp e0 (k0) 5
  have hR0 := rel0 (gv := (fun _ => undef)) (n := 24) (w := w) (args := [.c (.wh 0)]) (H := [⟨.ro false, 5, 1, l0.length, .b l0⟩]) (gl := []) (hpL (ps := [p0]) (F2.cons o0 F2.nil)) (allRo_ok rfl) (F2.cons s0 F2.nil) GlR.nil (by simp)
  clear ha hp hg k0 e0
  refine calls_W Try.func17 rfl rfl hR0 (Q := fun e s => (e = .ret ∨ e = .normal) ∧ s = rValue_R r) ?_ ?_
  · clear hR0
    unfold rValue at h
    have hT := tabO_pi
    refine W_seq ?_
    refine W_reg hT ftL_nil [] [] [0] [0] (s' := ⟨[(0, .c (.wh 0))], [], [⟨(.ro false), 5, 1, l0.length, .b l0⟩]⟩) (by kernel_rfl) allP_nil ?_
    refine W_seq ?_
    refine W_reg hT ftL_nil [] [] [0, 3] [0] (s' := ⟨[(0, .c (.wh 0)), (3, .c (.s (.k .i64 0)))], [], [⟨(.ro false), 5, 1, l0.length, .b l0⟩]⟩) (by kernel_rfl) allP_nil ?_
    refine W_join (rValue_j1_P n l0 r) ?_ ?_
    · rintro _ ⟨i3_4, rfl, h⟩
      unfold rValue_j1 at h
      refine W_seq ?_
      refine W_seq ?_
      refine W_reg hT ftL_nil [] [] [0, 3, 4] [0] (s' := ⟨[(0, .c (.wh 0)), (3, .c (.s (.k .i64 i3_4))), (4, .c (.s (.k .i64 0)))], [], [⟨(.ro false), 5, 1, l0.length, .b l0⟩]⟩) (by kernel_rfl) allP_nil ?_
      refine W_block ?_
      refine W_co [] [0, 3, 4] [0] (s' := (rValue_l1_E l0 i3_4 0)) (by kernel_rfl) (W_lp ((rValue_l1_P n l0 r)) n (rValue_l1_M h) ?_)
      rintro fu_l1 _ ⟨i3_5, i4_2, rfl, h⟩
      cases fu_l1 with
      | zero => cases h
      | succ fu_l1 =>
        refine ⟨fu_l1, rfl, ?_⟩
        rw [rValue_l1] at h
        refine W_seq ?_
        refine W_seq ?_
        refine W_reg hT ftL_nil [] [] [0, 3, 4, 12] [0] (s' := ⟨[(0, .c (.wh 0)), (3, .c (.s (.k .i64 i3_5))), (4, .c (.s (.k .i64 i4_2))), (12, .c (.s (.b (decide (i4_2 < ((l0.length : Nat) : Int))))))], [], [⟨(.ro false), 5, 1, l0.length, .b l0⟩]⟩) (by kernel_rfl) allP_nil ?_
        refine W_cond (b := (decide (i4_2 < ((l0.length : Nat) : Int)))) (by kernel_rfl) (fun g6 => ?_) (fun g6 => ?_)
        · replace h := bif_t h g6
          refine W_co [] [0, 3, 4] [0] (s' := ⟨[(0, .c (.wh 0)), (3, .c (.s (.k .i64 i3_5))), (4, .c (.s (.k .i64 i4_2)))], [], [⟨(.ro false), 5, 1, l0.length, .b l0⟩]⟩) (by kernel_rfl) (W_skip ?_)
          refine W_seq ?_
          refine W_block ?_
          obtain ⟨g1, h⟩ := gd_some h
          obtain ⟨g2, h⟩ := gd_some h
          obtain ⟨g3, h⟩ := gd_some h
          obtain ⟨g4, h⟩ := gd_some h
          refine W_reg hT ftL_nil [] [] [0, 3, 4] [0] (s' := ⟨[(0, .c (.wh 0)), (3, .c (.s (.k .i64 ((i3_5 * 256) + (((l0.getD i4_2.toNat 0).toNat : Nat) : Int))))), (4, .c (.s (.k .i64 i4_2)))], [], [⟨(.ro false), 5, 1, l0.length, .b l0⟩]⟩) (by kernel_rfl) (allP_cons.2 ⟨g1, (allP_cons.2 ⟨g2, (allP_cons.2 ⟨g3, (allP_cons.2 ⟨g4, allP_nil⟩)⟩)⟩)⟩) ?_
          obtain ⟨g5, h⟩ := gd_some h
          refine W_reg hT ftL_nil [] [] [0, 3, 4] [0] (s' := (rValue_l1_E l0 ((i3_5 * 256) + (((l0.getD i4_2.toNat 0).toNat : Nat) : Int)) (i4_2 + 1))) (by kernel_rfl) (allP_cons.2 ⟨g5, allP_nil⟩) ?_
          exact rValue_l1_M h
        · replace h := bif_f h g6
          refine W_co [] [3] [] (s' := ⟨[(3, .c (.s (.k .i64 i3_5)))], [], []⟩) (by kernel_rfl) (W_exit ?_)
          refine W_seq ?_
          refine W_reg hT ftL_nil [] [] [2] [] (s' := ⟨[(2, .c (.s (.k .i64 i3_5)))], [], []⟩) (by kernel_rfl) allP_nil ?_
          refine W_co [] [2] [] (s' := (rValue_R i3_5)) (by kernel_rfl) (W_ret ?_)
          exact ⟨.inl rfl, by cases h; rfl⟩
    · refine W_seq ?_
      obtain ⟨g7, h⟩ := gd_some h
      obtain ⟨g8, h⟩ := gd_some h
      refine W_reg hT ftL_nil [] [] [0, 3, 8] [0] (s' := ⟨[(0, .c (.wh 0)), (3, .c (.s (.k .i64 0))), (8, .c (.s (.b (decide ((128 : UInt8) ≤ (l0.getD 0 0))))))], [], [⟨(.ro false), 5, 1, l0.length, .b l0⟩]⟩) (by kernel_rfl) (allP_cons.2 ⟨g7, (allP_cons.2 ⟨g8, allP_nil⟩)⟩) ?_
      refine W_cond (b := (decide ((128 : UInt8) ≤ (l0.getD 0 0)))) (by kernel_rfl) (fun g9 => ?_) (fun g9 => ?_)
      · replace h := bif_t h g9
        refine W_reg hT ftL_nil [] [] [0, 3] [0] (s' := (rValue_j1_E l0 (-1))) (by kernel_rfl) allP_nil ?_
        exact rValue_j1_M h
      · replace h := bif_f h g9
        refine W_co [] [0, 3] [0] (s' := (rValue_j1_E l0 0)) (by kernel_rfl) (W_skip ?_)
        exact rValue_j1_M h
  · rintro e s' ⟨he, rfl⟩
    refine ⟨he, fun a' w' hr => ?_⟩
    exact retS_ok tabO_pi hr (rs := [.tmp 2]) rfl (objs := []) (by kernel_rfl)
def lInts_R (r : Bool) : S := ⟨[(4, .c (.s (.b r)))], [], []⟩
def lInts_ct (n : Nat) (r : Bool) : Ct := fun args H => match args with
  | [x0, x1] => (match aI x0 with | some l0 => (match aB H x1 with | some l1 => some ([lInts n l0 l1 = some r], shA H.length (.c (.s (.b r))), shH H.length []) | none => none) | none => none)
  | _ => none
theorem lInts_ok (n : Nat) (r : Bool) : FnOk Try.prog Tr 3 (lInts_ct n r) := by
  refine ⟨fun args H g av objs hF hg ρ w vals hG hp ha => ?_, _, Try.func3, by kernel_rfl, by kernel_rfl⟩
  obtain ⟨x0, x1, rfl⟩ : ∃ x0 x1, args = [x0, x1] := by
    unfold lInts_ct at hF; split at hF
    · exact ⟨_, _, rfl⟩
    · cases hF
  cases e0 : aI x0 with
  | none => simp only [lInts_ct, e0, reduceCtorEq] at hF
  | some l0 =>
  cases e1 : aB H x1 with
  | none => simp only [lInts_ct, e0, e1, reduceCtorEq] at hF
  | some l1 =>
  simp only [lInts_ct, e0, e1, Option.some.injEq, Prod.mk.injEq] at hF
  obtain ⟨rfl, rfl, rfl⟩ := hF
  obtain ⟨v0, vals, rfl, k0, ha⟩ := F2.inv ha
  obtain ⟨v1, vals, rfl, k1, ha⟩ := F2.inv ha
  obtain rfl := F2.inv0 ha
  have hI : ∀ w', Kp (noB (fun _ => undef)) w w' → Tr w' := fun _ hk => Tr.keep hk.below hG
  have h : lInts n l0 l1 = some r := hg
  have s0 := aI_ok e0 (k0)
  obtain ⟨p1, s1, o1⟩ := aB_ok hp e1 (k1) 5
  have hR0 := rel0 (gv := (fun _ => undef)) (n := 72) (w := w) (args := [.c (.s (.k .i64 l0)), .c (.wh 0)]) (H := [⟨.ro false, 5, 1, l1.length, .b l1⟩]) (gl := []) (hpL (ps := [p1]) (F2.cons o1 F2.nil)) (allRo_ok rfl) (F2.cons s0 (F2.cons s1 F2.nil)) GlR.nil (by simp)
  clear ha hp hg k0 k1 e0 e1
  refine calls_W Try.func3 rfl rfl hR0 (Q := fun e s => (e = .ret ∨ e = .normal) ∧ s = lInts_R r) ?_ ?_
  · clear hR0
    unfold lInts at h
    have hT := tabO_pi
    refine W_seq ?_
    refine W_reg hT ftL_nil [] [] [0, 1] [0] (s' := ⟨[(0, .c (.s (.k .i64 l0))), (1, .c (.wh 0))], [], [⟨(.ro false), 5, 1, l1.length, .b l1⟩]⟩) (by kernel_rfl) allP_nil ?_
    refine W_seq ?_
    obtain ⟨r11, g1, h⟩ := bind_some' h
    refine W_reg hT (ftL_cons (k := 0) (f := 14) (F := (pup_ct n r11)) (pup_ok n r11) (fun _ _ => True.intro) ftL_nil) [] [] [0, 1, 5] [0] (s' := ⟨[(0, .c (.s (.k .i64 l0))), (1, .c (.wh 0)), (5, .c (.s (.b r11)))], [], [⟨(.ro false), 5, 1, l1.length, .b l1⟩]⟩) (by kernel_rfl) (allP_cons.2 ⟨g1, allP_nil⟩) ?_
    refine W_seq ?_
    obtain ⟨r13, g2, h⟩ := bind_some' h
    refine W_reg hT (ftL_cons (k := 1) (f := 15) (F := (pInt_ct n r13)) (pInt_ok n r13) (fun _ _ => True.intro) ftL_nil) [] [] [0, 1, 5, 6] [0, 1] (s' := ⟨[(0, .c (.s (.k .i64 l0))), (1, .c (.wh 0)), (5, .c (.s (.b r11))), (6, .c (.wh 1))], [], [⟨(.ro false), 5, 1, l1.length, .b l1⟩, ⟨.row, 5, 1, r13.length, .b r13⟩]⟩) (by kernel_rfl) (allP_cons.2 ⟨g2, allP_nil⟩) ?_
    refine W_seq ?_
    obtain ⟨r15, g3, h⟩ := bind_some' h
    refine W_reg hT (ftL_cons (k := 1) (f := 16) (F := (rNumber_ct n r15)) (rNumber_ok n r15) (fun _ _ => True.intro) ftL_nil) [] [] [0, 1, 5, 6, 7] [0, 1] (s' := ⟨[(0, .c (.s (.k .i64 l0))), (1, .c (.wh 0)), (5, .c (.s (.b r11))), (6, .c (.wh 1)), (7, .c (.s (.b r15)))], [], [⟨(.ro false), 5, 1, l1.length, .b l1⟩, ⟨.row, 5, 1, r13.length, .b r13⟩]⟩) (by kernel_rfl) (allP_cons.2 ⟨g3, allP_nil⟩) ?_
    refine W_seq ?_
    refine W_seq ?_
    rcases Bool.eq_false_or_eq_true (!r15) with g4 | g4
    · replace h := bif_t h g4
      refine W_reg hT ftL_nil [(2, true)] [] [1, 5, 28] [0] (s' := ⟨[(1, .c (.wh 0)), (5, .c (.s (.b r11))), (28, .c (.s (.b true)))], [], [⟨(.ro false), 5, 1, l1.length, .b l1⟩]⟩) (by kernel_rfl) (allP_cons.2 ⟨g4, allP_nil⟩) ?_
      refine W_cond (b := true) (by kernel_rfl) (fun _ => ?_) (fun hb => by cases hb)
      refine W_seq ?_
      refine W_reg hT ftL_nil [] [] [4] [] (s' := ⟨[(4, .c (.s (.b false)))], [], []⟩) (by kernel_rfl) allP_nil ?_
      refine W_co [] [4] [] (s' := (lInts_R false)) (by kernel_rfl) (W_ret ?_)
      exact ⟨.inl rfl, by cases h; rfl⟩
    · replace h := bif_f h g4
      rcases Bool.eq_false_or_eq_true (decide ((8 : Int) < ((r13.length : Nat) : Int))) with g5 | g5
      · replace h := bif_t h g5
        refine W_reg hT ftL_nil [(2, false), (7, true)] [] [1, 5, 28] [0] (s' := ⟨[(1, .c (.wh 0)), (5, .c (.s (.b r11))), (28, .c (.s (.b true)))], [], [⟨(.ro false), 5, 1, l1.length, .b l1⟩]⟩) (by kernel_rfl) (allP_cons.2 ⟨g4, (allP_cons.2 ⟨g5, allP_nil⟩)⟩) ?_
        refine W_cond (b := true) (by kernel_rfl) (fun _ => ?_) (fun hb => by cases hb)
        refine W_seq ?_
        refine W_reg hT ftL_nil [] [] [4] [] (s' := ⟨[(4, .c (.s (.b false)))], [], []⟩) (by kernel_rfl) allP_nil ?_
        refine W_co [] [4] [] (s' := (lInts_R false)) (by kernel_rfl) (W_ret ?_)
        exact ⟨.inl rfl, by cases h; rfl⟩
      · replace h := bif_f h g5
        obtain ⟨r25, g6, h⟩ := bind_some' h
        refine W_reg hT (ftL_cons (k := 9) (f := 17) (F := (rValue_ct n r25)) (rValue_ok n r25) (fun _ _ => True.intro) ftL_nil) [(2, false), (7, false)] [] [1, 5, 28] [0] (s' := ⟨[(1, .c (.wh 0)), (5, .c (.s (.b r11))), (28, .c (.s (.b (r25 != l0))))], [], [⟨(.ro false), 5, 1, l1.length, .b l1⟩]⟩) (by kernel_rfl) (allP_cons.2 ⟨g4, (allP_cons.2 ⟨g5, (allP_cons.2 ⟨g6, allP_nil⟩)⟩)⟩) ?_
        refine W_cond (b := (r25 != l0)) (by kernel_rfl) (fun g20 => ?_) (fun g20 => ?_)
        · replace h := bif_t h g20
          refine W_seq ?_
          refine W_reg hT ftL_nil [] [] [4] [] (s' := ⟨[(4, .c (.s (.b false)))], [], []⟩) (by kernel_rfl) allP_nil ?_
          refine W_co [] [4] [] (s' := (lInts_R false)) (by kernel_rfl) (W_ret ?_)
          exact ⟨.inl rfl, by cases h; rfl⟩
        · replace h := bif_f h g20
          refine W_co [] [1, 5] [0] (s' := ⟨[(1, .c (.wh 0)), (5, .c (.s (.b r11)))], [], [⟨(.ro false), 5, 1, l1.length, .b l1⟩]⟩) (by kernel_rfl) (W_skip ?_)
          refine W_seq ?_
          obtain ⟨r31, g7, h⟩ := bind_some' h
          refine W_reg hT (ftL_cons (k := 1) (f := 18) (F := (pReadInt_ct n r31)) (pReadInt_ok n r31) (fun _ _ => True.intro) ftL_nil) [] [] [1, 5, 8, 9] [0] (s' := ⟨[(1, .c (.wh 0)), (5, .c (.s (.b r11))), (8, .c (.s (.k .i64 r31.1))), (9, .c (.s (.er 31 .i64 r31.2)))], [], [⟨(.ro false), 5, 1, l1.length, .b l1⟩]⟩) (by kernel_rfl) (allP_cons.2 ⟨g7, allP_nil⟩) ?_
          refine W_seq ?_
          obtain ⟨r35, g8, h⟩ := bind_some' h
          refine W_reg hT (ftL_cons (k := 1) (f := 16) (F := (rNumber_ct n r35)) (rNumber_ok n r35) (fun _ _ => True.intro) ftL_nil) [] [] [1, 5, 8, 9, 10] [0] (s' := ⟨[(1, .c (.wh 0)), (5, .c (.s (.b r11))), (8, .c (.s (.k .i64 r31.1))), (9, .c (.s (.er 31 .i64 r31.2))), (10, .c (.s (.b r35)))], [], [⟨(.ro false), 5, 1, l1.length, .b l1⟩]⟩) (by kernel_rfl) (allP_cons.2 ⟨g8, allP_nil⟩) ?_
          refine W_seq ?_
          refine W_seq ?_
          refine W_reg hT ftL_nil [] [] [1, 5, 8, 9, 37] [0] (s' := ⟨[(1, .c (.wh 0)), (5, .c (.s (.b r11))), (8, .c (.s (.k .i64 r31.1))), (9, .c (.s (.er 31 .i64 r31.2))), (37, .c (.s (.b (!r35))))], [], [⟨(.ro false), 5, 1, l1.length, .b l1⟩]⟩) (by kernel_rfl) allP_nil ?_
          refine W_cond (b := (!r35)) (by kernel_rfl) (fun g19 => ?_) (fun g19 => ?_)
          · replace h := bif_t h g19
            refine W_seq ?_
            rcases Bool.eq_false_or_eq_true r11 with g9 | g9
            · replace h := bif_t h g9
              obtain ⟨g10, h⟩ := gd_some h
              rcases Bool.eq_false_or_eq_true (r31.2 == (some 2)) with g11 | g11
              · replace h := bif_t h g11
                refine W_reg hT ftL_nil [(1, true), (6, true)] [] [4] [] (s' := ⟨[(4, .c (.s (.b (r31.1 == 0))))], [], []⟩) (by kernel_rfl) (allP_cons.2 ⟨g9, (allP_cons.2 ⟨g10, (allP_cons.2 ⟨g11, allP_nil⟩)⟩)⟩) ?_
                refine W_co [] [4] [] (s' := (lInts_R (r31.1 == 0))) (by kernel_rfl) (W_ret ?_)
                exact ⟨.inl rfl, by cases h; rfl⟩
              · replace h := bif_f h g11
                refine W_reg hT ftL_nil [(1, true), (6, false)] [] [4] [] (s' := ⟨[(4, .c (.s (.b false)))], [], []⟩) (by kernel_rfl) (allP_cons.2 ⟨g9, (allP_cons.2 ⟨g10, (allP_cons.2 ⟨g11, allP_nil⟩)⟩)⟩) ?_
                refine W_co [] [4] [] (s' := (lInts_R false)) (by kernel_rfl) (W_ret ?_)
                exact ⟨.inl rfl, by cases h; rfl⟩
            · replace h := bif_f h g9
              refine W_reg hT ftL_nil [(1, false)] [] [4] [] (s' := ⟨[(4, .c (.s (.b false)))], [], []⟩) (by kernel_rfl) (allP_cons.2 ⟨g9, allP_nil⟩) ?_
              refine W_co [] [4] [] (s' := (lInts_R false)) (by kernel_rfl) (W_ret ?_)
              exact ⟨.inl rfl, by cases h; rfl⟩
          · replace h := bif_f h g19
            refine W_co [] [1, 5, 8, 9] [0] (s' := ⟨[(1, .c (.wh 0)), (5, .c (.s (.b r11))), (8, .c (.s (.k .i64 r31.1))), (9, .c (.s (.er 31 .i64 r31.2)))], [], [⟨(.ro false), 5, 1, l1.length, .b l1⟩]⟩) (by kernel_rfl) (W_skip ?_)
            refine W_seq ?_
            refine W_seq ?_
            refine W_reg hT ftL_nil [] [] [1, 5, 8, 9, 50] [0] (s' := ⟨[(1, .c (.wh 0)), (5, .c (.s (.b r11))), (8, .c (.s (.k .i64 r31.1))), (9, .c (.s (.er 31 .i64 r31.2))), (50, .c (.s (.b (decide ((8 : Int) < ((l1.length : Nat) : Int))))))], [], [⟨(.ro false), 5, 1, l1.length, .b l1⟩]⟩) (by kernel_rfl) allP_nil ?_
            refine W_cond (b := (decide ((8 : Int) < ((l1.length : Nat) : Int)))) (by kernel_rfl) (fun g18 => ?_) (fun g18 => ?_)
            · replace h := bif_t h g18
              refine W_seq ?_
              rcases Bool.eq_false_or_eq_true r11 with g12 | g12
              · replace h := bif_t h g12
                obtain ⟨g13, h⟩ := gd_some h
                rcases Bool.eq_false_or_eq_true (r31.2 == (some 4)) with g14 | g14
                · replace h := bif_t h g14
                  refine W_reg hT ftL_nil [(1, true), (6, true)] [] [4] [] (s' := ⟨[(4, .c (.s (.b (r31.1 == 0))))], [], []⟩) (by kernel_rfl) (allP_cons.2 ⟨g12, (allP_cons.2 ⟨g13, (allP_cons.2 ⟨g14, allP_nil⟩)⟩)⟩) ?_
                  refine W_co [] [4] [] (s' := (lInts_R (r31.1 == 0))) (by kernel_rfl) (W_ret ?_)
                  exact ⟨.inl rfl, by cases h; rfl⟩
                · replace h := bif_f h g14
                  refine W_reg hT ftL_nil [(1, true), (6, false)] [] [4] [] (s' := ⟨[(4, .c (.s (.b false)))], [], []⟩) (by kernel_rfl) (allP_cons.2 ⟨g12, (allP_cons.2 ⟨g13, (allP_cons.2 ⟨g14, allP_nil⟩)⟩)⟩) ?_
                  refine W_co [] [4] [] (s' := (lInts_R false)) (by kernel_rfl) (W_ret ?_)
                  exact ⟨.inl rfl, by cases h; rfl⟩
              · replace h := bif_f h g12
                refine W_reg hT ftL_nil [(1, false)] [] [4] [] (s' := ⟨[(4, .c (.s (.b false)))], [], []⟩) (by kernel_rfl) (allP_cons.2 ⟨g12, allP_nil⟩) ?_
                refine W_co [] [4] [] (s' := (lInts_R false)) (by kernel_rfl) (W_ret ?_)
                exact ⟨.inl rfl, by cases h; rfl⟩
            · replace h := bif_f h g18
              refine W_co [] [1, 5, 8, 9] [0] (s' := ⟨[(1, .c (.wh 0)), (5, .c (.s (.b r11))), (8, .c (.s (.k .i64 r31.1))), (9, .c (.s (.er 31 .i64 r31.2)))], [], [⟨(.ro false), 5, 1, l1.length, .b l1⟩]⟩) (by kernel_rfl) (W_skip ?_)
              refine W_seq ?_
              rcases Bool.eq_false_or_eq_true r11 with g15 | g15
              · replace h := bif_t h g15
                rcases Bool.eq_false_or_eq_true ((r31.2).isNone) with g16 | g16
                · replace h := bif_t h g16
                  obtain ⟨r69, g17, h⟩ := bind_some' h
                  refine W_reg hT (ftL_cons (k := 8) (f := 17) (F := (rValue_ct n r69)) (rValue_ok n r69) (fun _ _ => True.intro) ftL_nil) [(1, true), (5, true)] [] [4] [] (s' := ⟨[(4, .c (.s (.b (r31.1 == r69))))], [], []⟩) (by kernel_rfl) (allP_cons.2 ⟨g15, (allP_cons.2 ⟨g16, (allP_cons.2 ⟨g17, allP_nil⟩)⟩)⟩) ?_
                  refine W_co [] [4] [] (s' := (lInts_R (r31.1 == r69))) (by kernel_rfl) (W_ret ?_)
                  exact ⟨.inl rfl, by cases h; rfl⟩
                · replace h := bif_f h g16
                  refine W_reg hT ftL_nil [(1, true), (5, false)] [] [4] [] (s' := ⟨[(4, .c (.s (.b false)))], [], []⟩) (by kernel_rfl) (allP_cons.2 ⟨g15, (allP_cons.2 ⟨g16, allP_nil⟩)⟩) ?_
                  refine W_co [] [4] [] (s' := (lInts_R false)) (by kernel_rfl) (W_ret ?_)
                  exact ⟨.inl rfl, by cases h; rfl⟩
              · replace h := bif_f h g15
                refine W_reg hT ftL_nil [(1, false)] [] [4] [] (s' := ⟨[(4, .c (.s (.b false)))], [], []⟩) (by kernel_rfl) (allP_cons.2 ⟨g15, allP_nil⟩) ?_
                refine W_co [] [4] [] (s' := (lInts_R false)) (by kernel_rfl) (W_ret ?_)
                exact ⟨.inl rfl, by cases h; rfl⟩
  · rintro e s' ⟨he, rfl⟩
    refine ⟨he, fun a' w' hr => ?_⟩
    exact retS_ok tabO_pi hr (rs := [.tmp 4]) rfl (objs := []) (by kernel_rfl)
end Go.Proofs.Ytliilihbnhdemaa
