import Derived.Test.YtmdijgmnopidpaaDoorSxT
import Derived.Test.YtmdijgmnopidpaaDoorProg
import Derived.Test.YtmdijgmnopidpaaDoorShb
set_option linter.unusedVariables false
set_option linter.unusedSimpArgs false
namespace Go.Proofs.YtmdijgmnopidpaaDoor
open Go.RowKit Go.Ch Go.Sx

def tabL_shf : List (TypeId × Ti) := [(3, ⟨.int .i64, 1, 8, true, some [.int .i64]⟩),
  (5, ⟨.int .u8, 1, 1, true, some [.int .u8]⟩),
  (9, ⟨.str, 1, 16, true, some [.str]⟩),
  (36, ⟨.sl 5, 1, 24, false, some [.nils]⟩),
  (38, ⟨.ifc, 1, 16, true, some [.ifc]⟩),
  (41, ⟨.int .i64, 1, 8, true, some [.int .i64]⟩)]
def tab_shf : Tab := fun t => (tabL_shf).lookup t
theorem tabE_shf : (tabL_shf.map fun p => tiOf Tryd.prog p.1) = tabL_shf.map fun p => some p.2 := by kernel_rfl
theorem tabO_shf : TabOk Tryd.prog tab_shf := tab_of tabE_shf

def cutS (n : Nat) (a0 : List UInt8) (a1 : Int) : Option (List UInt8 × Nat) :=
  bif (decide (a1 < ((a0.length : Nat) : Int))) then
    gd (0 ≤ a1) <|
    gd (a1 ≤ ((a0.length : Nat) : Int)) <|
    some (((a0.drop 0).take a1.toNat), a1.toNat)
  else
    some (a0, a0.length)
def tail_l1 (n : Nat) (a0 : Int) : Nat → List UInt8 → Int → Option (List UInt8 × Option Int)
  | 0, _, _ => none
  | fu_l1 + 1, l4_6, i5_1 =>
    bif (decide ((0 : Int) ≤ i5_1)) then
      gd (okI .i64 (8 * a0)) <|
      gd (0 ≤ i5_1) <|
      gd (i5_1 ≤ (((IntKind.i64).bits : Nat) : Int)) <|
      gd (rmB (l4_6.length + 1) 1) <|
      gd (okI .i64 (i5_1 - 8)) <|
      (tail_l1 n a0 fu_l1) (l4_6 ++ [(UInt8.ofInt ((8 * a0) / 2 ^ i5_1.toNat))]) (i5_1 - 8)
    else
      some (l4_6, none)
def tail_j1 (n : Nat) (a0 : Int) (l4_5 : List UInt8) : Option (List UInt8 × Option Int) :=
  tail_l1 n a0 n l4_5 56
def tail_l2 (n : Nat) (a0 : Int) : Nat → List UInt8 → Option (List UInt8 × Option Int)
  | 0, _ => none
  | fu_l2 + 1, l4_7 =>
    gd (okI .i64 (a0 + ((l4_7.length : Nat) : Int))) <|
    gd (okI .i64 ((a0 + ((l4_7.length : Nat) : Int)) + 8)) <|
    gd ((64 : Int) ≠ 0) <|
    bif ((Int.tmod ((a0 + ((l4_7.length : Nat) : Int)) + 8) 64) != 0) then
      gd (rmB (l4_7.length + 1) 1) <|
      (tail_l2 n a0 fu_l2) (l4_7 ++ [0])
    else
      tail_j1 n a0 l4_7
def tail (n : Nat) (a0 : Int) : Option (List UInt8 × Option Int) :=
  bif (decide (a0 < (0 : Int))) then
    some ([], (some 1))
  else
    bif (decide ((281474976710656 : Int) < a0)) then
      some ([], (some 1))
    else
      tail_l2 n a0 n [128]
def stays_l4 (n : Nat) (r20_1 : List UInt8 × Nat) (r82_1 : List UInt8 × Option Int) : Nat → List UInt8 → Int → Option (Bool)
  | 0, _, _ => none
  | fu_l4 + 1, l7_3, i17_1 =>
    bif (decide (i17_1 < (((digest consts begin8 ([] ++ r20_1.1)).length : Nat) : Int))) then
      gd (0 ≤ i17_1) <|
      gd (i17_1 < (((digest consts begin8 ([] ++ r20_1.1)).length : Nat) : Int)) <|
      gd (0 ≤ i17_1) <|
      gd (i17_1 < (((digest consts begin8 ([] ++ r20_1.1)).length : Nat) : Int)) <|
      gd (okI .i64 (i17_1 + 1)) <|
      (stays_l4 n r20_1 r82_1 fu_l4) (l7_3.set i17_1.toNat ((l7_3.getD i17_1.toNat 0) - (1 : UInt8))) (i17_1 + 1)
    else
      bif (([] ++ r20_1.1) == r20_1.1) then
        bif (l7_3 == (digest consts begin8 r20_1.1)) then
          bif (!((r82_1.2).isNone)) then
            some true
          else
            bif (decide ((0 : Int) < ((r82_1.1.length : Nat) : Int))) then
              gd (0 ≤ (0 : Int)) <|
              gd ((0 : Int) < ((r82_1.1.length : Nat) : Int)) <|
              some ((r82_1.1.getD 0 0) == 128)
            else
              some false
        else
          some false
      else
        some false
def stays_l3 (n : Nat) (a1 : Int) (r20_1 : List UInt8 × Nat) (l7_2 : List UInt8) (r63_1 : List UInt8 × Option Int) : Nat → List UInt8 → Int → Option (Bool)
  | 0, _, _ => none
  | fu_l3 + 1, l12_1, i14_1 =>
    bif (decide (i14_1 < ((r63_1.1.length : Nat) : Int))) then
      gd (0 ≤ i14_1) <|
      gd (i14_1 < ((r63_1.1.length : Nat) : Int)) <|
      gd (0 ≤ i14_1) <|
      gd (i14_1 < ((r63_1.1.length : Nat) : Int)) <|
      gd (okI .i64 (i14_1 + 1)) <|
      (stays_l3 n a1 r20_1 l7_2 r63_1 fu_l3) (l12_1.set i14_1.toNat ((l12_1.getD i14_1.toNat 0) + (1 : UInt8))) (i14_1 + 1)
    else
      (tail n a1).bind fun r82_1 =>
      stays_l4 n r20_1 r82_1 n l7_2 0
def stays_l2 (n : Nat) (a1 : Int) (r20_1 : List UInt8 × Nat) (l7_2 : List UInt8) : Nat → List UInt8 → Int → Option (Bool)
  | 0, _, _ => none
  | fu_l2 + 1, l6_1, i10_1 =>
    bif (decide (i10_1 < ((([] ++ r20_1.1).length : Nat) : Int))) then
      gd (0 ≤ i10_1) <|
      gd (i10_1 < ((([] ++ r20_1.1).length : Nat) : Int)) <|
      gd (0 ≤ i10_1) <|
      gd (i10_1 < ((([] ++ r20_1.1).length : Nat) : Int)) <|
      gd (okI .i64 (i10_1 + 1)) <|
      (stays_l2 n a1 r20_1 l7_2 fu_l2) (l6_1.set i10_1.toNat ((l6_1.getD i10_1.toNat 0) + (1 : UInt8))) (i10_1 + 1)
    else
      gd ((r20_1.1).length ≤ 100000) <|
      (tail n a1).bind fun r63_1 =>
      stays_l3 n a1 r20_1 l7_2 r63_1 n r63_1.1 0
def stays_l1 (n : Nat) (a1 : Int) (r20_1 : List UInt8 × Nat) : Nat → List UInt8 → Int → Option (Bool)
  | 0, _, _ => none
  | fu_l1 + 1, l7_2, i9_1 =>
    bif (decide (i9_1 < (((digest consts begin8 ([] ++ r20_1.1)).length : Nat) : Int))) then
      gd (0 ≤ i9_1) <|
      gd (i9_1 < (((digest consts begin8 ([] ++ r20_1.1)).length : Nat) : Int)) <|
      gd (0 ≤ i9_1) <|
      gd (i9_1 < (((digest consts begin8 ([] ++ r20_1.1)).length : Nat) : Int)) <|
      gd (okI .i64 (i9_1 + 1)) <|
      (stays_l1 n a1 r20_1 fu_l1) (l7_2.set i9_1.toNat ((l7_2.getD i9_1.toNat 0) + (1 : UInt8))) (i9_1 + 1)
    else
      stays_l2 n a1 r20_1 l7_2 n ([] ++ r20_1.1) 0
def stays (n : Nat) (a0 : List UInt8) (a1 : Int) : Option (Bool) :=
  (cutS n a0 2000).bind fun r20_1 =>
  gd (rmB (0 + r20_1.2) 1) <|
  gd ((([] ++ r20_1.1)).length ≤ 100000) <|
  stays_l1 n a1 r20_1 n (digest consts begin8 ([] ++ r20_1.1)) 0

def cutS_R (r : List UInt8 × Nat) : S := ⟨[(4, .c (.wh 0))], [], [⟨(.ro false), 5, 1, r.2, .b r.1⟩]⟩
def cutS_ct (n : Nat) (r : List UInt8 × Nat) : Ct := fun args H => match args with
  | [x0, x1] => (match aB H x0 with | some l0 => (match aI x1 with | some l1 => some ([cutS n l0 l1 = some r], shA H.length (.c (.wh 0)), shH H.length [⟨(.ro false), 5, 1, r.2, .b r.1⟩]) | none => none) | none => none)
  | _ => none
theorem cutS_ok (n : Nat) (r : List UInt8 × Nat) : FnOk Tryd.prog Tr 21 (cutS_ct n r) := by
  refine ⟨fun args H g av objs hF hg ρ w vals hG hp ha => ?_, _, Tryd.func21, by kernel_rfl, by kernel_rfl⟩
  have hI : ∀ w', Kp (fun _ => False) w w' → Tr w' := fun _ hk => Tr.keep hk.below hG
  obtain ⟨x0, x1, rfl⟩ : ∃ x0 x1, args = [x0, x1] := by
    unfold cutS_ct at hF; split at hF
    · exact ⟨_, _, rfl⟩
    · cases hF
  cases e0 : aB H x0 with
  | none => simp only [cutS_ct, e0, reduceCtorEq] at hF
  | some l0 =>
  cases e1 : aI x1 with
  | none => simp only [cutS_ct, e0, e1, reduceCtorEq] at hF
  | some l1 =>
  simp only [cutS_ct, e0, e1, Option.some.injEq, Prod.mk.injEq] at hF
  obtain ⟨rfl, rfl, rfl⟩ := hF
  obtain ⟨v0, vals, rfl, k0, ha⟩ := F2.inv ha
  obtain ⟨v1, vals, rfl, k1, ha⟩ := F2.inv ha
  obtain rfl := F2.inv0 ha
  have h : cutS n l0 l1 = some r := hg
  obtain ⟨p0, s0, o0⟩ := aB_ok hp e0 (k0) 5
  have s1 := aI_ok e1 (k1)
  have hR0 := rel0 (n := 13) (w := w) (args := [.c (.wh 0), .c (.s (.k .i64 l1))]) (H := [⟨.ro false, 5, 1, l0.length, .b l0⟩]) (gl := []) (hpL (ps := [p0]) (F2.cons o0 F2.nil)) (allRo_ok rfl) (F2.cons s0 (F2.cons s1 F2.nil)) GlR.nil (by simp)
  clear ha hp hg k0 k1 e0 e1
  refine calls_W Tryd.func21 rfl rfl hR0 (Q := fun e s => (e = .ret ∨ e = .normal) ∧ s = cutS_R r) ?_ ?_
  · clear hR0
    unfold cutS at h
    have hT := tabO_shf
    refine W_seq ?_
    refine W_reg hT ftL_nil [] [] [0, 1] [0] (s' := ⟨[(0, .c (.wh 0)), (1, .c (.s (.k .i64 l1)))], [], [⟨(.ro false), 5, 1, l0.length, .b l0⟩]⟩) (by kernel_rfl) allP_nil ?_
    refine W_seq ?_
    refine W_seq ?_
    refine W_reg hT ftL_nil [] [] [0, 1, 8] [0] (s' := ⟨[(0, .c (.wh 0)), (1, .c (.s (.k .i64 l1))), (8, .c (.s (.b (decide (l1 < ((l0.length : Nat) : Int))))))], [], [⟨(.ro false), 5, 1, l0.length, .b l0⟩]⟩) (by kernel_rfl) allP_nil ?_
    refine W_cond (b := (decide (l1 < ((l0.length : Nat) : Int)))) (by kernel_rfl) (fun g3 => ?_) (fun g3 => ?_)
    · replace h := bif_t h g3
      refine W_seq ?_
      obtain ⟨g1, h⟩ := gd_some h
      obtain ⟨g2, h⟩ := gd_some h
      refine W_reg hT ftL_nil [] [] [4] [0] (s' := ⟨[(4, .c (.sl 0 0 l1.toNat))], [], [⟨(.ro false), 5, 1, l0.length, .b l0⟩]⟩) (by kernel_rfl) (allP_cons.2 ⟨g1, (allP_cons.2 ⟨g2, allP_nil⟩)⟩) ?_
      refine W_co [.vw 4 false] [4] [1] (s' := (cutS_R (((l0.drop 0).take l1.toNat), l1.toNat))) (by kernel_rfl) (W_ret ?_)
      exact ⟨.inl rfl, by cases h; rfl⟩
    · replace h := bif_f h g3
      refine W_co [] [0] [0] (s' := ⟨[(0, .c (.wh 0))], [], [⟨(.ro false), 5, 1, l0.length, .b l0⟩]⟩) (by kernel_rfl) (W_skip ?_)
      refine W_seq ?_
      refine W_reg hT ftL_nil [] [] [4] [0] (s' := ⟨[(4, .c (.wh 0))], [], [⟨(.ro false), 5, 1, l0.length, .b l0⟩]⟩) (by kernel_rfl) allP_nil ?_
      refine W_co [] [4] [0] (s' := (cutS_R (l0, l0.length))) (by kernel_rfl) (W_ret ?_)
      exact ⟨.inl rfl, by cases h; rfl⟩
  · rintro e s' ⟨he, rfl⟩
    refine ⟨he, fun a' w' hr => ?_⟩
    exact retS_ok tabO_shf hr (rs := [.tmp 4]) rfl (objs := [0]) (by kernel_rfl)
def tail_l1_E (a0 : Int) (l4_6 : List UInt8) (i5_1 : Int) : S := ⟨[(0, .c (.s (.k .i64 a0))), (4, .c (.wh 0)), (5, .c (.s (.k .i64 i5_1)))], [], [⟨.row, 5, 1, l4_6.length, .b l4_6⟩]⟩
def tail_l1_P (n : Nat) (a0 : Int) (r : List UInt8 × Option Int) (fu : Nat) : S → Prop := fun s => ∃ (l4_6 : List UInt8), ∃ (i5_1 : Int), s = tail_l1_E a0 l4_6 i5_1 ∧ tail_l1 n a0 fu l4_6 i5_1 = some r
theorem tail_l1_M {n : Nat} {a0 : Int} {l4_6 : List UInt8} {i5_1 : Int} {r : List UInt8 × Option Int} {fu : Nat} (h : tail_l1 n a0 fu l4_6 i5_1 = some r) : tail_l1_P n a0 r fu (tail_l1_E a0 l4_6 i5_1) := ⟨l4_6, i5_1, rfl, h⟩
def tail_j1_E (a0 : Int) (l4_5 : List UInt8) : S := ⟨[(0, .c (.s (.k .i64 a0))), (4, .c (.wh 0))], [], [⟨.row, 5, 1, l4_5.length, .b l4_5⟩]⟩
def tail_j1_P (n : Nat) (a0 : Int) (r : List UInt8 × Option Int) : S → Prop := fun s => ∃ (l4_5 : List UInt8), s = tail_j1_E a0 l4_5 ∧ tail_j1 n a0 l4_5 = some r
theorem tail_j1_M {n : Nat} {a0 : Int} {l4_5 : List UInt8} {r : List UInt8 × Option Int} (h : tail_j1 n a0 l4_5 = some r) : tail_j1_P n a0 r (tail_j1_E a0 l4_5) := ⟨l4_5, rfl, h⟩
def tail_l2_E (a0 : Int) (l4_7 : List UInt8) : S := ⟨[(0, .c (.s (.k .i64 a0))), (4, .c (.wh 0))], [], [⟨.row, 5, 1, l4_7.length, .b l4_7⟩]⟩
def tail_l2_P (n : Nat) (a0 : Int) (r : List UInt8 × Option Int) (fu : Nat) : S → Prop := fun s => ∃ (l4_7 : List UInt8), s = tail_l2_E a0 l4_7 ∧ tail_l2 n a0 fu l4_7 = some r
theorem tail_l2_M {n : Nat} {a0 : Int} {l4_7 : List UInt8} {r : List UInt8 × Option Int} {fu : Nat} (h : tail_l2 n a0 fu l4_7 = some r) : tail_l2_P n a0 r fu (tail_l2_E a0 l4_7) := ⟨l4_7, rfl, h⟩
def tail_R (r : List UInt8 × Option Int) : S := ⟨[(2, .c (.wh 0)), (3, .c (.s (.er 41 .i64 r.2)))], [], [⟨.row, 5, 1, r.1.length, .b r.1⟩]⟩
def tail_ct (n : Nat) (r : List UInt8 × Option Int) : Ct := fun args H => match args with
  | [x0] => (match aI x0 with | some l0 => some ([tail n l0 = some r], shA H.length (.t [.c (.wh 0), .c (.s (.er 41 .i64 r.2))]), shH H.length [⟨.row, 5, 1, r.1.length, .b r.1⟩]) | none => none)
  | _ => none
theorem tail_ok (n : Nat) (r : List UInt8 × Option Int) : FnOk Tryd.prog Tr 19 (tail_ct n r) := by
  refine ⟨fun args H g av objs hF hg ρ w vals hG hp ha => ?_, _, Tryd.func19, by kernel_rfl, by kernel_rfl⟩
  have hI : ∀ w', Kp (fun _ => False) w w' → Tr w' := fun _ hk => Tr.keep hk.below hG
  obtain ⟨x0, rfl⟩ : ∃ x0, args = [x0] := by
    unfold tail_ct at hF; split at hF
    · exact ⟨_, rfl⟩
    · cases hF
  cases e0 : aI x0 with
  | none => simp only [tail_ct, e0, reduceCtorEq] at hF
  | some l0 =>
  simp only [tail_ct, e0, Option.some.injEq, Prod.mk.injEq] at hF
  obtain ⟨rfl, rfl, rfl⟩ := hF
  obtain ⟨v0, vals, rfl, k0, ha⟩ := F2.inv ha
  obtain rfl := F2.inv0 ha
  have h : tail n l0 = some r := hg
  have s0 := aI_ok e0 (k0)
  have hR0 := rel0 (n := 37) (w := w) (args := [.c (.s (.k .i64 l0))]) (H := []) (gl := []) (hpL (ps := []) F2.nil) (allRo_ok rfl) (F2.cons s0 F2.nil) GlR.nil (by simp)
  clear ha hp hg k0 e0
  refine calls_W Tryd.func19 rfl rfl hR0 (Q := fun e s => (e = .ret ∨ e = .normal) ∧ s = tail_R r) ?_ ?_
  · clear hR0
    unfold tail at h
    have hT := tabO_shf
    refine W_seq ?_
    refine W_reg hT ftL_nil [] [] [0] [] (s' := ⟨[(0, .c (.s (.k .i64 l0)))], [], []⟩) (by kernel_rfl) allP_nil ?_
    refine W_seq ?_
    refine W_seq ?_
    rcases Bool.eq_false_or_eq_true (decide (l0 < (0 : Int))) with g1 | g1
    · replace h := bif_t h g1
      refine W_reg hT ftL_nil [(2, true)] [] [0, 11] [] (s' := ⟨[(0, .c (.s (.k .i64 l0))), (11, .c (.s (.b true)))], [], []⟩) (by kernel_rfl) (allP_cons.2 ⟨g1, allP_nil⟩) ?_
      refine W_cond (b := true) (by kernel_rfl) (fun _ => ?_) (fun hb => by cases hb)
      refine W_seq ?_
      refine W_reg hT ftL_nil [] [] [2, 3] [] (s' := ⟨[(2, .c (.nils)), (3, .c (.s (.er 41 .i64 (some 1))))], [], []⟩) (by kernel_rfl) allP_nil ?_
      refine W_co [.nil 2 5 1 (.b [])] [2, 3] [0] (s' := (tail_R ([], (some 1)))) (by kernel_rfl) (W_ret ?_)
      exact ⟨.inl rfl, by cases h; rfl⟩
    · replace h := bif_f h g1
      refine W_reg hT ftL_nil [(2, false)] [] [0, 11] [] (s' := ⟨[(0, .c (.s (.k .i64 l0))), (11, .c (.s (.b (decide ((281474976710656 : Int) < l0)))))], [], []⟩) (by kernel_rfl) (allP_cons.2 ⟨g1, allP_nil⟩) ?_
      refine W_cond (b := (decide ((281474976710656 : Int) < l0))) (by kernel_rfl) (fun g13 => ?_) (fun g13 => ?_)
      · replace h := bif_t h g13
        refine W_seq ?_
        refine W_reg hT ftL_nil [] [] [2, 3] [] (s' := ⟨[(2, .c (.nils)), (3, .c (.s (.er 41 .i64 (some 1))))], [], []⟩) (by kernel_rfl) allP_nil ?_
        refine W_co [.nil 2 5 1 (.b [])] [2, 3] [0] (s' := (tail_R ([], (some 1)))) (by kernel_rfl) (W_ret ?_)
        exact ⟨.inl rfl, by cases h; rfl⟩
      · replace h := bif_f h g13
        refine W_co [] [0] [] (s' := ⟨[(0, .c (.s (.k .i64 l0)))], [], []⟩) (by kernel_rfl) (W_skip ?_)
        refine W_seq ?_
        refine W_reg hT ftL_nil [] [] [0, 4] [0] (s' := ⟨[(0, .c (.s (.k .i64 l0))), (4, .c (.wh 0))], [], [⟨.row, 5, 1, 1, .b [128]⟩]⟩) (by kernel_rfl) allP_nil ?_
        refine W_join (tail_j1_P n l0 r) ?_ ?_
        · rintro _ ⟨l4_5, rfl, h⟩
          unfold tail_j1 at h
          refine W_seq ?_
          refine W_seq ?_
          refine W_reg hT ftL_nil [] [] [0, 4, 5] [0] (s' := ⟨[(0, .c (.s (.k .i64 l0))), (4, .c (.wh 0)), (5, .c (.s (.k .i64 56)))], [], [⟨.row, 5, 1, l4_5.length, .b l4_5⟩]⟩) (by kernel_rfl) allP_nil ?_
          refine W_block ?_
          refine W_co [] [0, 4, 5] [0] (s' := (tail_l1_E l0 l4_5 56)) (by kernel_rfl) (W_lp ((tail_l1_P n l0 r)) n (tail_l1_M h) ?_)
          rintro fu_l1 _ ⟨l4_6, i5_1, rfl, h⟩
          cases fu_l1 with
          | zero => cases h
          | succ fu_l1 =>
            refine ⟨fu_l1, rfl, ?_⟩
            rw [tail_l1] at h
            refine W_seq ?_
            refine W_seq ?_
            refine W_reg hT ftL_nil [] [] [0, 4, 5, 25] [0] (s' := ⟨[(0, .c (.s (.k .i64 l0))), (4, .c (.wh 0)), (5, .c (.s (.k .i64 i5_1))), (25, .c (.s (.b (decide ((0 : Int) ≤ i5_1)))))], [], [⟨.row, 5, 1, l4_6.length, .b l4_6⟩]⟩) (by kernel_rfl) allP_nil ?_
            refine W_cond (b := (decide ((0 : Int) ≤ i5_1))) (by kernel_rfl) (fun g7 => ?_) (fun g7 => ?_)
            · replace h := bif_t h g7
              refine W_co [] [0, 4, 5] [0] (s' := ⟨[(0, .c (.s (.k .i64 l0))), (4, .c (.wh 0)), (5, .c (.s (.k .i64 i5_1)))], [], [⟨.row, 5, 1, l4_6.length, .b l4_6⟩]⟩) (by kernel_rfl) (W_skip ?_)
              refine W_seq ?_
              refine W_block ?_
              obtain ⟨g2, h⟩ := gd_some h
              obtain ⟨g3, h⟩ := gd_some h
              obtain ⟨g4, h⟩ := gd_some h
              obtain ⟨g5, h⟩ := gd_some h
              refine W_reg hT ftL_nil [] [] [0, 4, 5] [2] (s' := ⟨[(0, .c (.s (.k .i64 l0))), (4, .c (.wh 0)), (5, .c (.s (.k .i64 i5_1)))], [], [⟨.row, 5, 1, (l4_6 ++ [(UInt8.ofInt ((8 * l0) / 2 ^ i5_1.toNat))]).length, .b (l4_6 ++ [(UInt8.ofInt ((8 * l0) / 2 ^ i5_1.toNat))])⟩]⟩) (by kernel_rfl) (allP_cons.2 ⟨g2, (allP_cons.2 ⟨g3, (allP_cons.2 ⟨g4, (allP_cons.2 ⟨g5, allP_nil⟩)⟩)⟩)⟩) ?_
              obtain ⟨g6, h⟩ := gd_some h
              refine W_reg hT ftL_nil [] [] [0, 4, 5] [0] (s' := (tail_l1_E l0 (l4_6 ++ [(UInt8.ofInt ((8 * l0) / 2 ^ i5_1.toNat))]) (i5_1 - 8))) (by kernel_rfl) (allP_cons.2 ⟨g6, allP_nil⟩) ?_
              exact tail_l1_M h
            · replace h := bif_f h g7
              refine W_co [] [4] [0] (s' := ⟨[(4, .c (.wh 0))], [], [⟨.row, 5, 1, l4_6.length, .b l4_6⟩]⟩) (by kernel_rfl) (W_exit ?_)
              refine W_seq ?_
              refine W_reg hT ftL_nil [] [] [2, 3] [0] (s' := ⟨[(2, .c (.wh 0)), (3, .c (.s (.v .nilIface)))], [], [⟨.row, 5, 1, l4_6.length, .b l4_6⟩]⟩) (by kernel_rfl) allP_nil ?_
              refine W_co [.er 3 41 .i64] [2, 3] [0] (s' := (tail_R (l4_6, none))) (by kernel_rfl) (W_ret ?_)
              exact ⟨.inl rfl, by cases h; rfl⟩
        · refine W_block ?_
          refine W_co [] [0, 4] [0] (s' := (tail_l2_E l0 [128])) (by kernel_rfl) (W_lp ((tail_l2_P n l0 r)) n (tail_l2_M h) ?_)
          rintro fu_l2 _ ⟨l4_7, rfl, h⟩
          cases fu_l2 with
          | zero => cases h
          | succ fu_l2 =>
            refine ⟨fu_l2, rfl, ?_⟩
            rw [tail_l2] at h
            refine W_seq ?_
            refine W_seq ?_
            obtain ⟨g8, h⟩ := gd_some h
            obtain ⟨g9, h⟩ := gd_some h
            obtain ⟨g10, h⟩ := gd_some h
            refine W_reg hT ftL_nil [] [] [0, 4, 20] [0] (s' := ⟨[(0, .c (.s (.k .i64 l0))), (4, .c (.wh 0)), (20, .c (.s (.b ((Int.tmod ((l0 + ((l4_7.length : Nat) : Int)) + 8) 64) != 0))))], [], [⟨.row, 5, 1, l4_7.length, .b l4_7⟩]⟩) (by kernel_rfl) (allP_cons.2 ⟨g8, (allP_cons.2 ⟨g9, (allP_cons.2 ⟨g10, allP_nil⟩)⟩)⟩) ?_
            refine W_cond (b := ((Int.tmod ((l0 + ((l4_7.length : Nat) : Int)) + 8) 64) != 0)) (by kernel_rfl) (fun g12 => ?_) (fun g12 => ?_)
            · replace h := bif_t h g12
              refine W_co [] [0, 4] [0] (s' := ⟨[(0, .c (.s (.k .i64 l0))), (4, .c (.wh 0))], [], [⟨.row, 5, 1, l4_7.length, .b l4_7⟩]⟩) (by kernel_rfl) (W_skip ?_)
              refine W_block ?_
              obtain ⟨g11, h⟩ := gd_some h
              refine W_reg hT ftL_nil [] [] [0, 4] [2] (s' := (tail_l2_E l0 (l4_7 ++ [0]))) (by kernel_rfl) (allP_cons.2 ⟨g11, allP_nil⟩) ?_
              exact tail_l2_M h
            · replace h := bif_f h g12
              refine W_co [] [0, 4] [0] (s' := (tail_j1_E l0 l4_7)) (by kernel_rfl) (W_exit ?_)
              exact tail_j1_M h
  · rintro e s' ⟨he, rfl⟩
    refine ⟨he, fun a' w' hr => ?_⟩
    exact retS_ok tabO_shf hr (rs := [.tmp 2, .tmp 3]) rfl (objs := [0]) (by kernel_rfl)
def stays_l4_E (r20_1 : List UInt8 × Nat) (r82_1 : List UInt8 × Option Int) (l7_3 : List UInt8) (i17_1 : Int) : S := ⟨[(5, .c (.s (.b true))), (7, .c (.wh 0)), (8, .c (.s (.b (([] ++ r20_1.1) == r20_1.1)))), (11, .c (.wh 1)), (15, .c (.wh 2)), (16, .c (.s (.er 41 .i64 r82_1.2))), (17, .c (.s (.k .i64 i17_1)))], [], [⟨.row, 5, 1, (digest consts begin8 ([] ++ r20_1.1)).length, .b l7_3⟩, ⟨.row, 5, 1, (digest consts begin8 r20_1.1).length, .b (digest consts begin8 r20_1.1)⟩, ⟨.row, 5, 1, r82_1.1.length, .b r82_1.1⟩]⟩
def stays_l4_P (n : Nat) (r20_1 : List UInt8 × Nat) (r82_1 : List UInt8 × Option Int) (r : Bool) (fu : Nat) : S → Prop := fun s => ∃ (l7_3 : List UInt8), ∃ (i17_1 : Int), s = stays_l4_E r20_1 r82_1 l7_3 i17_1 ∧ stays_l4 n r20_1 r82_1 fu l7_3 i17_1 = some r
theorem stays_l4_M {n : Nat} {r20_1 : List UInt8 × Nat} {r82_1 : List UInt8 × Option Int} {l7_3 : List UInt8} {i17_1 : Int} {r : Bool} {fu : Nat} (h : stays_l4 n r20_1 r82_1 fu l7_3 i17_1 = some r) : stays_l4_P n r20_1 r82_1 r fu (stays_l4_E r20_1 r82_1 l7_3 i17_1) := ⟨l7_3, i17_1, rfl, h⟩
def stays_l3_E (a1 : Int) (r20_1 : List UInt8 × Nat) (l7_2 : List UInt8) (r63_1 : List UInt8 × Option Int) (l12_1 : List UInt8) (i14_1 : Int) : S := ⟨[(1, .c (.s (.k .i64 a1))), (5, .c (.s (.b true))), (7, .c (.wh 0)), (8, .c (.s (.b (([] ++ r20_1.1) == r20_1.1)))), (11, .c (.wh 1)), (12, .c (.wh 2)), (14, .c (.s (.k .i64 i14_1)))], [], [⟨.row, 5, 1, (digest consts begin8 ([] ++ r20_1.1)).length, .b l7_2⟩, ⟨.row, 5, 1, (digest consts begin8 r20_1.1).length, .b (digest consts begin8 r20_1.1)⟩, ⟨.row, 5, 1, r63_1.1.length, .b l12_1⟩]⟩
def stays_l3_P (n : Nat) (a1 : Int) (r20_1 : List UInt8 × Nat) (l7_2 : List UInt8) (r63_1 : List UInt8 × Option Int) (r : Bool) (fu : Nat) : S → Prop := fun s => ∃ (l12_1 : List UInt8), ∃ (i14_1 : Int), s = stays_l3_E a1 r20_1 l7_2 r63_1 l12_1 i14_1 ∧ stays_l3 n a1 r20_1 l7_2 r63_1 fu l12_1 i14_1 = some r
theorem stays_l3_M {n : Nat} {a1 : Int} {r20_1 : List UInt8 × Nat} {l7_2 : List UInt8} {r63_1 : List UInt8 × Option Int} {l12_1 : List UInt8} {i14_1 : Int} {r : Bool} {fu : Nat} (h : stays_l3 n a1 r20_1 l7_2 r63_1 fu l12_1 i14_1 = some r) : stays_l3_P n a1 r20_1 l7_2 r63_1 r fu (stays_l3_E a1 r20_1 l7_2 r63_1 l12_1 i14_1) := ⟨l12_1, i14_1, rfl, h⟩
def stays_l2_E (a1 : Int) (r20_1 : List UInt8 × Nat) (l7_2 : List UInt8) (l6_1 : List UInt8) (i10_1 : Int) : S := ⟨[(0, .c (.wh 0)), (1, .c (.s (.k .i64 a1))), (5, .c (.s (.b true))), (6, .c (.wh 1)), (7, .c (.wh 2)), (8, .c (.s (.b (([] ++ r20_1.1) == r20_1.1)))), (10, .c (.s (.k .i64 i10_1)))], [], [⟨(.ro false), 5, 1, r20_1.2, .b r20_1.1⟩, ⟨.row, 5, 1, ([] ++ r20_1.1).length, .b l6_1⟩, ⟨.row, 5, 1, (digest consts begin8 ([] ++ r20_1.1)).length, .b l7_2⟩]⟩
def stays_l2_P (n : Nat) (a1 : Int) (r20_1 : List UInt8 × Nat) (l7_2 : List UInt8) (r : Bool) (fu : Nat) : S → Prop := fun s => ∃ (l6_1 : List UInt8), ∃ (i10_1 : Int), s = stays_l2_E a1 r20_1 l7_2 l6_1 i10_1 ∧ stays_l2 n a1 r20_1 l7_2 fu l6_1 i10_1 = some r
theorem stays_l2_M {n : Nat} {a1 : Int} {r20_1 : List UInt8 × Nat} {l7_2 : List UInt8} {l6_1 : List UInt8} {i10_1 : Int} {r : Bool} {fu : Nat} (h : stays_l2 n a1 r20_1 l7_2 fu l6_1 i10_1 = some r) : stays_l2_P n a1 r20_1 l7_2 r fu (stays_l2_E a1 r20_1 l7_2 l6_1 i10_1) := ⟨l6_1, i10_1, rfl, h⟩
def stays_l1_E (a1 : Int) (r20_1 : List UInt8 × Nat) (l7_2 : List UInt8) (i9_1 : Int) : S := ⟨[(0, .c (.wh 0)), (1, .c (.s (.k .i64 a1))), (5, .c (.s (.b true))), (6, .c (.wh 1)), (7, .c (.wh 2)), (8, .c (.s (.b (([] ++ r20_1.1) == r20_1.1)))), (9, .c (.s (.k .i64 i9_1)))], [], [⟨(.ro false), 5, 1, r20_1.2, .b r20_1.1⟩, ⟨.row, 5, 1, ([] ++ r20_1.1).length, .b ([] ++ r20_1.1)⟩, ⟨.row, 5, 1, (digest consts begin8 ([] ++ r20_1.1)).length, .b l7_2⟩]⟩
def stays_l1_P (n : Nat) (a1 : Int) (r20_1 : List UInt8 × Nat) (r : Bool) (fu : Nat) : S → Prop := fun s => ∃ (l7_2 : List UInt8), ∃ (i9_1 : Int), s = stays_l1_E a1 r20_1 l7_2 i9_1 ∧ stays_l1 n a1 r20_1 fu l7_2 i9_1 = some r
theorem stays_l1_M {n : Nat} {a1 : Int} {r20_1 : List UInt8 × Nat} {l7_2 : List UInt8} {i9_1 : Int} {r : Bool} {fu : Nat} (h : stays_l1 n a1 r20_1 fu l7_2 i9_1 = some r) : stays_l1_P n a1 r20_1 r fu (stays_l1_E a1 r20_1 l7_2 i9_1) := ⟨l7_2, i9_1, rfl, h⟩
def stays_R (r : Bool) : S := ⟨[(4, .c (.s (.b r)))], [], []⟩
def stays_ct (n : Nat) (r : Bool) : Ct := fun args H => match args with
  | [x0, x1] => (match aB H x0 with | some l0 => (match aI x1 with | some l1 => some ([stays n l0 l1 = some r], shA H.length (.c (.s (.b r))), shH H.length []) | none => none) | none => none)
  | _ => none
theorem stays_ok (n : Nat) (r : Bool) : FnOk Tryd.prog GK 10 (stays_ct n r) := by
  refine ⟨fun args H g av objs hF hg ρ w vals hG hp ha => ?_, _, Tryd.func10, by kernel_rfl, by kernel_rfl⟩
  have hI : ∀ w', Kp (fun _ => False) w w' → GK w' := fun _ hk => GK.keep hk.below hG
  obtain ⟨x0, x1, rfl⟩ : ∃ x0 x1, args = [x0, x1] := by
    unfold stays_ct at hF; split at hF
    · exact ⟨_, _, rfl⟩
    · cases hF
  cases e0 : aB H x0 with
  | none => simp only [stays_ct, e0, reduceCtorEq] at hF
  | some l0 =>
  cases e1 : aI x1 with
  | none => simp only [stays_ct, e0, e1, reduceCtorEq] at hF
  | some l1 =>
  simp only [stays_ct, e0, e1, Option.some.injEq, Prod.mk.injEq] at hF
  obtain ⟨rfl, rfl, rfl⟩ := hF
  obtain ⟨v0, vals, rfl, k0, ha⟩ := F2.inv ha
  obtain ⟨v1, vals, rfl, k1, ha⟩ := F2.inv ha
  obtain rfl := F2.inv0 ha
  have h : stays n l0 l1 = some r := hg
  obtain ⟨p0, s0, o0⟩ := aB_ok hp e0 (k0) 5
  have s1 := aI_ok e1 (k1)
  have hR0 := rel0 (n := 125) (w := w) (args := [.c (.wh 0), .c (.s (.k .i64 l1))]) (H := [⟨.ro false, 5, 1, l0.length, .b l0⟩]) (gl := []) (hpL (ps := [p0]) (F2.cons o0 F2.nil)) (allRo_ok rfl) (F2.cons s0 (F2.cons s1 F2.nil)) GlR.nil (by simp)
  clear ha hp hg k0 k1 e0 e1
  refine calls_W Tryd.func10 rfl rfl hR0 (Q := fun e s => (e = .ret ∨ e = .normal) ∧ s = stays_R r) ?_ ?_
  · clear hR0
    unfold stays at h
    have hT := tabO_shf
    refine W_seq ?_
    refine W_reg hT ftL_nil [] [] [0, 1] [0] (s' := ⟨[(0, .c (.wh 0)), (1, .c (.s (.k .i64 l1)))], [], [⟨(.ro false), 5, 1, l0.length, .b l0⟩]⟩) (by kernel_rfl) allP_nil ?_
    refine W_seq ?_
    refine W_reg hT (ftL_cons (k := 0) (f := 11) (F := up_ct) up_h hI ftL_nil) [] [] [0, 1, 5] [0] (s' := ⟨[(0, .c (.wh 0)), (1, .c (.s (.k .i64 l1))), (5, .c (.s (.b true)))], [], [⟨(.ro false), 5, 1, l0.length, .b l0⟩]⟩) (by kernel_rfl) allP_nil ?_
    refine W_seq ?_
    obtain ⟨r20_1, g1, h⟩ := bind_some' h
    refine W_reg hT (ftL_cons (k := 1) (f := 21) (F := (cutS_ct n r20_1)) (cutS_ok n r20_1) (fun _ _ => True.intro) ftL_nil) [] [] [0, 1, 5] [1] (s' := ⟨[(0, .c (.wh 0)), (1, .c (.s (.k .i64 l1))), (5, .c (.s (.b true)))], [], [⟨(.ro false), 5, 1, r20_1.2, .b r20_1.1⟩]⟩) (by kernel_rfl) (allP_cons.2 ⟨g1, allP_nil⟩) ?_
    refine W_seq ?_
    obtain ⟨g2, h⟩ := gd_some h
    refine W_reg hT ftL_nil [] [] [0, 1, 5, 6] [0, 2] (s' := ⟨[(0, .c (.wh 0)), (1, .c (.s (.k .i64 l1))), (5, .c (.s (.b true))), (6, .c (.wh 1))], [], [⟨(.ro false), 5, 1, r20_1.2, .b r20_1.1⟩, ⟨.row, 5, 1, ([] ++ r20_1.1).length, .b ([] ++ r20_1.1)⟩]⟩) (by kernel_rfl) (allP_cons.2 ⟨g2, allP_nil⟩) ?_
    refine W_seq ?_
    obtain ⟨g3, h⟩ := gd_some h
    refine W_reg hT (ftL_cons (k := 1) (f := 22) (F := sum_ct) sum_h hI ftL_nil) [] [] [0, 1, 5, 6, 7] [0, 1, 2] (s' := ⟨[(0, .c (.wh 0)), (1, .c (.s (.k .i64 l1))), (5, .c (.s (.b true))), (6, .c (.wh 1)), (7, .c (.wh 2))], [], [⟨(.ro false), 5, 1, r20_1.2, .b r20_1.1⟩, ⟨.row, 5, 1, ([] ++ r20_1.1).length, .b ([] ++ r20_1.1)⟩, ⟨.row, 5, 1, (digest consts begin8 ([] ++ r20_1.1)).length, .b (digest consts begin8 ([] ++ r20_1.1))⟩]⟩) (by kernel_rfl) (allP_cons.2 ⟨g3, allP_nil⟩) ?_
    refine W_seq ?_
    refine W_reg hT ftL_nil [] [] [0, 1, 5, 6, 7, 8] [0, 1, 2] (s' := ⟨[(0, .c (.wh 0)), (1, .c (.s (.k .i64 l1))), (5, .c (.s (.b true))), (6, .c (.wh 1)), (7, .c (.wh 2)), (8, .c (.s (.b (([] ++ r20_1.1) == r20_1.1))))], [], [⟨(.ro false), 5, 1, r20_1.2, .b r20_1.1⟩, ⟨.row, 5, 1, ([] ++ r20_1.1).length, .b ([] ++ r20_1.1)⟩, ⟨.row, 5, 1, (digest consts begin8 ([] ++ r20_1.1)).length, .b (digest consts begin8 ([] ++ r20_1.1))⟩]⟩) (by kernel_rfl) allP_nil ?_
    refine W_seq ?_
    refine W_seq ?_
    refine W_reg hT ftL_nil [] [] [0, 1, 5, 6, 7, 8, 9] [0, 1, 2] (s' := ⟨[(0, .c (.wh 0)), (1, .c (.s (.k .i64 l1))), (5, .c (.s (.b true))), (6, .c (.wh 1)), (7, .c (.wh 2)), (8, .c (.s (.b (([] ++ r20_1.1) == r20_1.1)))), (9, .c (.s (.k .i64 0)))], [], [⟨(.ro false), 5, 1, r20_1.2, .b r20_1.1⟩, ⟨.row, 5, 1, ([] ++ r20_1.1).length, .b ([] ++ r20_1.1)⟩, ⟨.row, 5, 1, (digest consts begin8 ([] ++ r20_1.1)).length, .b (digest consts begin8 ([] ++ r20_1.1))⟩]⟩) (by kernel_rfl) allP_nil ?_
    refine W_block ?_
    refine W_co [] [0, 1, 5, 6, 7, 8, 9] [0, 1, 2] (s' := (stays_l1_E l1 r20_1 (digest consts begin8 ([] ++ r20_1.1)) 0)) (by kernel_rfl) (W_lp ((stays_l1_P n l1 r20_1 r)) n (stays_l1_M h) ?_)
    rintro fu_l1 _ ⟨l7_2, i9_1, rfl, h⟩
    cases fu_l1 with
    | zero => cases h
    | succ fu_l1 =>
      refine ⟨fu_l1, rfl, ?_⟩
      rw [stays_l1] at h
      refine W_seq ?_
      refine W_seq ?_
      refine W_reg hT ftL_nil [] [] [0, 1, 5, 6, 7, 8, 9, 34] [0, 1, 2] (s' := ⟨[(0, .c (.wh 0)), (1, .c (.s (.k .i64 l1))), (5, .c (.s (.b true))), (6, .c (.wh 1)), (7, .c (.wh 2)), (8, .c (.s (.b (([] ++ r20_1.1) == r20_1.1)))), (9, .c (.s (.k .i64 i9_1))), (34, .c (.s (.b (decide (i9_1 < (((digest consts begin8 ([] ++ r20_1.1)).length : Nat) : Int))))))], [], [⟨(.ro false), 5, 1, r20_1.2, .b r20_1.1⟩, ⟨.row, 5, 1, ([] ++ r20_1.1).length, .b ([] ++ r20_1.1)⟩, ⟨.row, 5, 1, (digest consts begin8 ([] ++ r20_1.1)).length, .b l7_2⟩]⟩) (by kernel_rfl) allP_nil ?_
      refine W_cond (b := (decide (i9_1 < (((digest consts begin8 ([] ++ r20_1.1)).length : Nat) : Int)))) (by kernel_rfl) (fun g36 => ?_) (fun g36 => ?_)
      · replace h := bif_t h g36
        refine W_co [] [0, 1, 5, 6, 7, 8, 9] [0, 1, 2] (s' := ⟨[(0, .c (.wh 0)), (1, .c (.s (.k .i64 l1))), (5, .c (.s (.b true))), (6, .c (.wh 1)), (7, .c (.wh 2)), (8, .c (.s (.b (([] ++ r20_1.1) == r20_1.1)))), (9, .c (.s (.k .i64 i9_1)))], [], [⟨(.ro false), 5, 1, r20_1.2, .b r20_1.1⟩, ⟨.row, 5, 1, ([] ++ r20_1.1).length, .b ([] ++ r20_1.1)⟩, ⟨.row, 5, 1, (digest consts begin8 ([] ++ r20_1.1)).length, .b l7_2⟩]⟩) (by kernel_rfl) (W_skip ?_)
        refine W_seq ?_
        refine W_block ?_
        obtain ⟨g4, h⟩ := gd_some h
        obtain ⟨g5, h⟩ := gd_some h
        obtain ⟨g6, h⟩ := gd_some h
        obtain ⟨g7, h⟩ := gd_some h
        refine W_reg hT ftL_nil [] [] [0, 1, 5, 6, 7, 8, 9] [0, 1, 2] (s' := ⟨[(0, .c (.wh 0)), (1, .c (.s (.k .i64 l1))), (5, .c (.s (.b true))), (6, .c (.wh 1)), (7, .c (.wh 2)), (8, .c (.s (.b (([] ++ r20_1.1) == r20_1.1)))), (9, .c (.s (.k .i64 i9_1)))], [], [⟨(.ro false), 5, 1, r20_1.2, .b r20_1.1⟩, ⟨.row, 5, 1, ([] ++ r20_1.1).length, .b ([] ++ r20_1.1)⟩, ⟨.row, 5, 1, (digest consts begin8 ([] ++ r20_1.1)).length, .b (l7_2.set i9_1.toNat ((l7_2.getD i9_1.toNat 0) + (1 : UInt8)))⟩]⟩) (by kernel_rfl) (allP_cons.2 ⟨g4, (allP_cons.2 ⟨g5, (allP_cons.2 ⟨g6, (allP_cons.2 ⟨g7, allP_nil⟩)⟩)⟩)⟩) ?_
        obtain ⟨g8, h⟩ := gd_some h
        refine W_reg hT ftL_nil [] [] [0, 1, 5, 6, 7, 8, 9] [0, 1, 2] (s' := (stays_l1_E l1 r20_1 (l7_2.set i9_1.toNat ((l7_2.getD i9_1.toNat 0) + (1 : UInt8))) (i9_1 + 1))) (by kernel_rfl) (allP_cons.2 ⟨g8, allP_nil⟩) ?_
        exact stays_l1_M h
      · replace h := bif_f h g36
        refine W_co [] [0, 1, 5, 6, 7, 8] [0, 1, 2] (s' := ⟨[(0, .c (.wh 0)), (1, .c (.s (.k .i64 l1))), (5, .c (.s (.b true))), (6, .c (.wh 1)), (7, .c (.wh 2)), (8, .c (.s (.b (([] ++ r20_1.1) == r20_1.1))))], [], [⟨(.ro false), 5, 1, r20_1.2, .b r20_1.1⟩, ⟨.row, 5, 1, ([] ++ r20_1.1).length, .b ([] ++ r20_1.1)⟩, ⟨.row, 5, 1, (digest consts begin8 ([] ++ r20_1.1)).length, .b l7_2⟩]⟩) (by kernel_rfl) (W_exit ?_)
        refine W_seq ?_
        refine W_seq ?_
        refine W_reg hT ftL_nil [] [] [0, 1, 5, 6, 7, 8, 10] [0, 1, 2] (s' := ⟨[(0, .c (.wh 0)), (1, .c (.s (.k .i64 l1))), (5, .c (.s (.b true))), (6, .c (.wh 1)), (7, .c (.wh 2)), (8, .c (.s (.b (([] ++ r20_1.1) == r20_1.1)))), (10, .c (.s (.k .i64 0)))], [], [⟨(.ro false), 5, 1, r20_1.2, .b r20_1.1⟩, ⟨.row, 5, 1, ([] ++ r20_1.1).length, .b ([] ++ r20_1.1)⟩, ⟨.row, 5, 1, (digest consts begin8 ([] ++ r20_1.1)).length, .b l7_2⟩]⟩) (by kernel_rfl) allP_nil ?_
        refine W_block ?_
        refine W_co [] [0, 1, 5, 6, 7, 8, 10] [0, 1, 2] (s' := (stays_l2_E l1 r20_1 l7_2 ([] ++ r20_1.1) 0)) (by kernel_rfl) (W_lp ((stays_l2_P n l1 r20_1 l7_2 r)) n (stays_l2_M h) ?_)
        rintro fu_l2 _ ⟨l6_1, i10_1, rfl, h⟩
        cases fu_l2 with
        | zero => cases h
        | succ fu_l2 =>
          refine ⟨fu_l2, rfl, ?_⟩
          rw [stays_l2] at h
          refine W_seq ?_
          refine W_seq ?_
          refine W_reg hT ftL_nil [] [] [0, 1, 5, 6, 7, 8, 10, 48] [0, 1, 2] (s' := ⟨[(0, .c (.wh 0)), (1, .c (.s (.k .i64 l1))), (5, .c (.s (.b true))), (6, .c (.wh 1)), (7, .c (.wh 2)), (8, .c (.s (.b (([] ++ r20_1.1) == r20_1.1)))), (10, .c (.s (.k .i64 i10_1))), (48, .c (.s (.b (decide (i10_1 < ((([] ++ r20_1.1).length : Nat) : Int))))))], [], [⟨(.ro false), 5, 1, r20_1.2, .b r20_1.1⟩, ⟨.row, 5, 1, ([] ++ r20_1.1).length, .b l6_1⟩, ⟨.row, 5, 1, (digest consts begin8 ([] ++ r20_1.1)).length, .b l7_2⟩]⟩) (by kernel_rfl) allP_nil ?_
          refine W_cond (b := (decide (i10_1 < ((([] ++ r20_1.1).length : Nat) : Int)))) (by kernel_rfl) (fun g35 => ?_) (fun g35 => ?_)
          · replace h := bif_t h g35
            refine W_co [] [0, 1, 5, 6, 7, 8, 10] [0, 1, 2] (s' := ⟨[(0, .c (.wh 0)), (1, .c (.s (.k .i64 l1))), (5, .c (.s (.b true))), (6, .c (.wh 1)), (7, .c (.wh 2)), (8, .c (.s (.b (([] ++ r20_1.1) == r20_1.1)))), (10, .c (.s (.k .i64 i10_1)))], [], [⟨(.ro false), 5, 1, r20_1.2, .b r20_1.1⟩, ⟨.row, 5, 1, ([] ++ r20_1.1).length, .b l6_1⟩, ⟨.row, 5, 1, (digest consts begin8 ([] ++ r20_1.1)).length, .b l7_2⟩]⟩) (by kernel_rfl) (W_skip ?_)
            refine W_seq ?_
            refine W_block ?_
            obtain ⟨g9, h⟩ := gd_some h
            obtain ⟨g10, h⟩ := gd_some h
            obtain ⟨g11, h⟩ := gd_some h
            obtain ⟨g12, h⟩ := gd_some h
            refine W_reg hT ftL_nil [] [] [0, 1, 5, 6, 7, 8, 10] [0, 1, 2] (s' := ⟨[(0, .c (.wh 0)), (1, .c (.s (.k .i64 l1))), (5, .c (.s (.b true))), (6, .c (.wh 1)), (7, .c (.wh 2)), (8, .c (.s (.b (([] ++ r20_1.1) == r20_1.1)))), (10, .c (.s (.k .i64 i10_1)))], [], [⟨(.ro false), 5, 1, r20_1.2, .b r20_1.1⟩, ⟨.row, 5, 1, ([] ++ r20_1.1).length, .b (l6_1.set i10_1.toNat ((l6_1.getD i10_1.toNat 0) + (1 : UInt8)))⟩, ⟨.row, 5, 1, (digest consts begin8 ([] ++ r20_1.1)).length, .b l7_2⟩]⟩) (by kernel_rfl) (allP_cons.2 ⟨g9, (allP_cons.2 ⟨g10, (allP_cons.2 ⟨g11, (allP_cons.2 ⟨g12, allP_nil⟩)⟩)⟩)⟩) ?_
            obtain ⟨g13, h⟩ := gd_some h
            refine W_reg hT ftL_nil [] [] [0, 1, 5, 6, 7, 8, 10] [0, 1, 2] (s' := (stays_l2_E l1 r20_1 l7_2 (l6_1.set i10_1.toNat ((l6_1.getD i10_1.toNat 0) + (1 : UInt8))) (i10_1 + 1))) (by kernel_rfl) (allP_cons.2 ⟨g13, allP_nil⟩) ?_
            exact stays_l2_M h
          · replace h := bif_f h g35
            refine W_co [] [0, 1, 5, 7, 8] [0, 2] (s' := ⟨[(0, .c (.wh 0)), (1, .c (.s (.k .i64 l1))), (5, .c (.s (.b true))), (7, .c (.wh 1)), (8, .c (.s (.b (([] ++ r20_1.1) == r20_1.1))))], [], [⟨(.ro false), 5, 1, r20_1.2, .b r20_1.1⟩, ⟨.row, 5, 1, (digest consts begin8 ([] ++ r20_1.1)).length, .b l7_2⟩]⟩) (by kernel_rfl) (W_exit ?_)
            refine W_seq ?_
            obtain ⟨g14, h⟩ := gd_some h
            refine W_reg hT (ftL_cons (k := 1) (f := 22) (F := sum_ct) sum_h hI ftL_nil) [] [] [1, 5, 7, 8, 11] [1, 2] (s' := ⟨[(1, .c (.s (.k .i64 l1))), (5, .c (.s (.b true))), (7, .c (.wh 0)), (8, .c (.s (.b (([] ++ r20_1.1) == r20_1.1)))), (11, .c (.wh 1))], [], [⟨.row, 5, 1, (digest consts begin8 ([] ++ r20_1.1)).length, .b l7_2⟩, ⟨.row, 5, 1, (digest consts begin8 r20_1.1).length, .b (digest consts begin8 r20_1.1)⟩]⟩) (by kernel_rfl) (allP_cons.2 ⟨g14, allP_nil⟩) ?_
            refine W_seq ?_
            obtain ⟨r63_1, g15, h⟩ := bind_some' h
            refine W_reg hT (ftL_cons (k := 1) (f := 19) (F := (tail_ct n r63_1)) (tail_ok n r63_1) (fun _ _ => True.intro) ftL_nil) [] [] [1, 5, 7, 8, 11, 12] [0, 1, 2] (s' := ⟨[(1, .c (.s (.k .i64 l1))), (5, .c (.s (.b true))), (7, .c (.wh 0)), (8, .c (.s (.b (([] ++ r20_1.1) == r20_1.1)))), (11, .c (.wh 1)), (12, .c (.wh 2))], [], [⟨.row, 5, 1, (digest consts begin8 ([] ++ r20_1.1)).length, .b l7_2⟩, ⟨.row, 5, 1, (digest consts begin8 r20_1.1).length, .b (digest consts begin8 r20_1.1)⟩, ⟨.row, 5, 1, r63_1.1.length, .b r63_1.1⟩]⟩) (by kernel_rfl) (allP_cons.2 ⟨g15, allP_nil⟩) ?_
            refine W_seq ?_
            refine W_seq ?_
            refine W_reg hT ftL_nil [] [] [1, 5, 7, 8, 11, 12, 14] [0, 1, 2] (s' := ⟨[(1, .c (.s (.k .i64 l1))), (5, .c (.s (.b true))), (7, .c (.wh 0)), (8, .c (.s (.b (([] ++ r20_1.1) == r20_1.1)))), (11, .c (.wh 1)), (12, .c (.wh 2)), (14, .c (.s (.k .i64 0)))], [], [⟨.row, 5, 1, (digest consts begin8 ([] ++ r20_1.1)).length, .b l7_2⟩, ⟨.row, 5, 1, (digest consts begin8 r20_1.1).length, .b (digest consts begin8 r20_1.1)⟩, ⟨.row, 5, 1, r63_1.1.length, .b r63_1.1⟩]⟩) (by kernel_rfl) allP_nil ?_
            refine W_block ?_
            refine W_co [] [1, 5, 7, 8, 11, 12, 14] [0, 1, 2] (s' := (stays_l3_E l1 r20_1 l7_2 r63_1 r63_1.1 0)) (by kernel_rfl) (W_lp ((stays_l3_P n l1 r20_1 l7_2 r63_1 r)) n (stays_l3_M h) ?_)
            rintro fu_l3 _ ⟨l12_1, i14_1, rfl, h⟩
            cases fu_l3 with
            | zero => cases h
            | succ fu_l3 =>
              refine ⟨fu_l3, rfl, ?_⟩
              rw [stays_l3] at h
              refine W_seq ?_
              refine W_seq ?_
              refine W_reg hT ftL_nil [] [] [1, 5, 7, 8, 11, 12, 14, 69] [0, 1, 2] (s' := ⟨[(1, .c (.s (.k .i64 l1))), (5, .c (.s (.b true))), (7, .c (.wh 0)), (8, .c (.s (.b (([] ++ r20_1.1) == r20_1.1)))), (11, .c (.wh 1)), (12, .c (.wh 2)), (14, .c (.s (.k .i64 i14_1))), (69, .c (.s (.b (decide (i14_1 < ((r63_1.1.length : Nat) : Int))))))], [], [⟨.row, 5, 1, (digest consts begin8 ([] ++ r20_1.1)).length, .b l7_2⟩, ⟨.row, 5, 1, (digest consts begin8 r20_1.1).length, .b (digest consts begin8 r20_1.1)⟩, ⟨.row, 5, 1, r63_1.1.length, .b l12_1⟩]⟩) (by kernel_rfl) allP_nil ?_
              refine W_cond (b := (decide (i14_1 < ((r63_1.1.length : Nat) : Int)))) (by kernel_rfl) (fun g34 => ?_) (fun g34 => ?_)
              · replace h := bif_t h g34
                refine W_co [] [1, 5, 7, 8, 11, 12, 14] [0, 1, 2] (s' := ⟨[(1, .c (.s (.k .i64 l1))), (5, .c (.s (.b true))), (7, .c (.wh 0)), (8, .c (.s (.b (([] ++ r20_1.1) == r20_1.1)))), (11, .c (.wh 1)), (12, .c (.wh 2)), (14, .c (.s (.k .i64 i14_1)))], [], [⟨.row, 5, 1, (digest consts begin8 ([] ++ r20_1.1)).length, .b l7_2⟩, ⟨.row, 5, 1, (digest consts begin8 r20_1.1).length, .b (digest consts begin8 r20_1.1)⟩, ⟨.row, 5, 1, r63_1.1.length, .b l12_1⟩]⟩) (by kernel_rfl) (W_skip ?_)
                refine W_seq ?_
                refine W_block ?_
                obtain ⟨g16, h⟩ := gd_some h
                obtain ⟨g17, h⟩ := gd_some h
                obtain ⟨g18, h⟩ := gd_some h
                obtain ⟨g19, h⟩ := gd_some h
                refine W_reg hT ftL_nil [] [] [1, 5, 7, 8, 11, 12, 14] [0, 1, 2] (s' := ⟨[(1, .c (.s (.k .i64 l1))), (5, .c (.s (.b true))), (7, .c (.wh 0)), (8, .c (.s (.b (([] ++ r20_1.1) == r20_1.1)))), (11, .c (.wh 1)), (12, .c (.wh 2)), (14, .c (.s (.k .i64 i14_1)))], [], [⟨.row, 5, 1, (digest consts begin8 ([] ++ r20_1.1)).length, .b l7_2⟩, ⟨.row, 5, 1, (digest consts begin8 r20_1.1).length, .b (digest consts begin8 r20_1.1)⟩, ⟨.row, 5, 1, r63_1.1.length, .b (l12_1.set i14_1.toNat ((l12_1.getD i14_1.toNat 0) + (1 : UInt8)))⟩]⟩) (by kernel_rfl) (allP_cons.2 ⟨g16, (allP_cons.2 ⟨g17, (allP_cons.2 ⟨g18, (allP_cons.2 ⟨g19, allP_nil⟩)⟩)⟩)⟩) ?_
                obtain ⟨g20, h⟩ := gd_some h
                refine W_reg hT ftL_nil [] [] [1, 5, 7, 8, 11, 12, 14] [0, 1, 2] (s' := (stays_l3_E l1 r20_1 l7_2 r63_1 (l12_1.set i14_1.toNat ((l12_1.getD i14_1.toNat 0) + (1 : UInt8))) (i14_1 + 1))) (by kernel_rfl) (allP_cons.2 ⟨g20, allP_nil⟩) ?_
                exact stays_l3_M h
              · replace h := bif_f h g34
                refine W_co [] [1, 5, 7, 8, 11] [0, 1] (s' := ⟨[(1, .c (.s (.k .i64 l1))), (5, .c (.s (.b true))), (7, .c (.wh 0)), (8, .c (.s (.b (([] ++ r20_1.1) == r20_1.1)))), (11, .c (.wh 1))], [], [⟨.row, 5, 1, (digest consts begin8 ([] ++ r20_1.1)).length, .b l7_2⟩, ⟨.row, 5, 1, (digest consts begin8 r20_1.1).length, .b (digest consts begin8 r20_1.1)⟩]⟩) (by kernel_rfl) (W_exit ?_)
                refine W_seq ?_
                obtain ⟨r82_1, g21, h⟩ := bind_some' h
                refine W_reg hT (ftL_cons (k := 1) (f := 19) (F := (tail_ct n r82_1)) (tail_ok n r82_1) (fun _ _ => True.intro) ftL_nil) [] [] [5, 7, 8, 11, 15, 16] [0, 1, 2] (s' := ⟨[(5, .c (.s (.b true))), (7, .c (.wh 0)), (8, .c (.s (.b (([] ++ r20_1.1) == r20_1.1)))), (11, .c (.wh 1)), (15, .c (.wh 2)), (16, .c (.s (.er 41 .i64 r82_1.2)))], [], [⟨.row, 5, 1, (digest consts begin8 ([] ++ r20_1.1)).length, .b l7_2⟩, ⟨.row, 5, 1, (digest consts begin8 r20_1.1).length, .b (digest consts begin8 r20_1.1)⟩, ⟨.row, 5, 1, r82_1.1.length, .b r82_1.1⟩]⟩) (by kernel_rfl) (allP_cons.2 ⟨g21, allP_nil⟩) ?_
                refine W_seq ?_
                refine W_seq ?_
                refine W_reg hT ftL_nil [] [] [5, 7, 8, 11, 15, 16, 17] [0, 1, 2] (s' := ⟨[(5, .c (.s (.b true))), (7, .c (.wh 0)), (8, .c (.s (.b (([] ++ r20_1.1) == r20_1.1)))), (11, .c (.wh 1)), (15, .c (.wh 2)), (16, .c (.s (.er 41 .i64 r82_1.2))), (17, .c (.s (.k .i64 0)))], [], [⟨.row, 5, 1, (digest consts begin8 ([] ++ r20_1.1)).length, .b l7_2⟩, ⟨.row, 5, 1, (digest consts begin8 r20_1.1).length, .b (digest consts begin8 r20_1.1)⟩, ⟨.row, 5, 1, r82_1.1.length, .b r82_1.1⟩]⟩) (by kernel_rfl) allP_nil ?_
                refine W_block ?_
                refine W_co [] [5, 7, 8, 11, 15, 16, 17] [0, 1, 2] (s' := (stays_l4_E r20_1 r82_1 l7_2 0)) (by kernel_rfl) (W_lp ((stays_l4_P n r20_1 r82_1 r)) n (stays_l4_M h) ?_)
                rintro fu_l4 _ ⟨l7_3, i17_1, rfl, h⟩
                cases fu_l4 with
                | zero => cases h
                | succ fu_l4 =>
                  refine ⟨fu_l4, rfl, ?_⟩
                  rw [stays_l4] at h
                  refine W_seq ?_
                  refine W_seq ?_
                  refine W_reg hT ftL_nil [] [] [5, 7, 8, 11, 15, 16, 17, 88] [0, 1, 2] (s' := ⟨[(5, .c (.s (.b true))), (7, .c (.wh 0)), (8, .c (.s (.b (([] ++ r20_1.1) == r20_1.1)))), (11, .c (.wh 1)), (15, .c (.wh 2)), (16, .c (.s (.er 41 .i64 r82_1.2))), (17, .c (.s (.k .i64 i17_1))), (88, .c (.s (.b (decide (i17_1 < (((digest consts begin8 ([] ++ r20_1.1)).length : Nat) : Int))))))], [], [⟨.row, 5, 1, (digest consts begin8 ([] ++ r20_1.1)).length, .b l7_3⟩, ⟨.row, 5, 1, (digest consts begin8 r20_1.1).length, .b (digest consts begin8 r20_1.1)⟩, ⟨.row, 5, 1, r82_1.1.length, .b r82_1.1⟩]⟩) (by kernel_rfl) allP_nil ?_
                  refine W_cond (b := (decide (i17_1 < (((digest consts begin8 ([] ++ r20_1.1)).length : Nat) : Int)))) (by kernel_rfl) (fun g33 => ?_) (fun g33 => ?_)
                  · replace h := bif_t h g33
                    refine W_co [] [5, 7, 8, 11, 15, 16, 17] [0, 1, 2] (s' := ⟨[(5, .c (.s (.b true))), (7, .c (.wh 0)), (8, .c (.s (.b (([] ++ r20_1.1) == r20_1.1)))), (11, .c (.wh 1)), (15, .c (.wh 2)), (16, .c (.s (.er 41 .i64 r82_1.2))), (17, .c (.s (.k .i64 i17_1)))], [], [⟨.row, 5, 1, (digest consts begin8 ([] ++ r20_1.1)).length, .b l7_3⟩, ⟨.row, 5, 1, (digest consts begin8 r20_1.1).length, .b (digest consts begin8 r20_1.1)⟩, ⟨.row, 5, 1, r82_1.1.length, .b r82_1.1⟩]⟩) (by kernel_rfl) (W_skip ?_)
                    refine W_seq ?_
                    refine W_block ?_
                    obtain ⟨g22, h⟩ := gd_some h
                    obtain ⟨g23, h⟩ := gd_some h
                    obtain ⟨g24, h⟩ := gd_some h
                    obtain ⟨g25, h⟩ := gd_some h
                    refine W_reg hT ftL_nil [] [] [5, 7, 8, 11, 15, 16, 17] [0, 1, 2] (s' := ⟨[(5, .c (.s (.b true))), (7, .c (.wh 0)), (8, .c (.s (.b (([] ++ r20_1.1) == r20_1.1)))), (11, .c (.wh 1)), (15, .c (.wh 2)), (16, .c (.s (.er 41 .i64 r82_1.2))), (17, .c (.s (.k .i64 i17_1)))], [], [⟨.row, 5, 1, (digest consts begin8 ([] ++ r20_1.1)).length, .b (l7_3.set i17_1.toNat ((l7_3.getD i17_1.toNat 0) - (1 : UInt8)))⟩, ⟨.row, 5, 1, (digest consts begin8 r20_1.1).length, .b (digest consts begin8 r20_1.1)⟩, ⟨.row, 5, 1, r82_1.1.length, .b r82_1.1⟩]⟩) (by kernel_rfl) (allP_cons.2 ⟨g22, (allP_cons.2 ⟨g23, (allP_cons.2 ⟨g24, (allP_cons.2 ⟨g25, allP_nil⟩)⟩)⟩)⟩) ?_
                    obtain ⟨g26, h⟩ := gd_some h
                    refine W_reg hT ftL_nil [] [] [5, 7, 8, 11, 15, 16, 17] [0, 1, 2] (s' := (stays_l4_E r20_1 r82_1 (l7_3.set i17_1.toNat ((l7_3.getD i17_1.toNat 0) - (1 : UInt8))) (i17_1 + 1))) (by kernel_rfl) (allP_cons.2 ⟨g26, allP_nil⟩) ?_
                    exact stays_l4_M h
                  · replace h := bif_f h g33
                    refine W_co [] [5, 7, 8, 11, 15, 16] [0, 1, 2] (s' := ⟨[(5, .c (.s (.b true))), (7, .c (.wh 0)), (8, .c (.s (.b (([] ++ r20_1.1) == r20_1.1)))), (11, .c (.wh 1)), (15, .c (.wh 2)), (16, .c (.s (.er 41 .i64 r82_1.2)))], [], [⟨.row, 5, 1, (digest consts begin8 ([] ++ r20_1.1)).length, .b l7_3⟩, ⟨.row, 5, 1, (digest consts begin8 r20_1.1).length, .b (digest consts begin8 r20_1.1)⟩, ⟨.row, 5, 1, r82_1.1.length, .b r82_1.1⟩]⟩) (by kernel_rfl) (W_exit ?_)
                    refine W_seq ?_
                    rcases Bool.eq_false_or_eq_true (([] ++ r20_1.1) == r20_1.1) with g27 | g27
                    · replace h := bif_t h g27
                      rcases Bool.eq_false_or_eq_true (l7_3 == (digest consts begin8 r20_1.1)) with g28 | g28
                      · replace h := bif_t h g28
                        rcases Bool.eq_false_or_eq_true (!((r82_1.2).isNone)) with g29 | g29
                        · replace h := bif_t h g29
                          refine W_reg hT ftL_nil [(4, true), (11, true), (14, true)] [] [4] [] (s' := ⟨[(4, .c (.s (.b true)))], [], []⟩) (by kernel_rfl) (allP_cons.2 ⟨g27, (allP_cons.2 ⟨g28, (allP_cons.2 ⟨g29, allP_nil⟩)⟩)⟩) ?_
                          refine W_co [] [4] [] (s' := (stays_R true)) (by kernel_rfl) (W_ret ?_)
                          exact ⟨.inl rfl, by cases h; rfl⟩
                        · replace h := bif_f h g29
                          rcases Bool.eq_false_or_eq_true (decide ((0 : Int) < ((r82_1.1.length : Nat) : Int))) with g30 | g30
                          · replace h := bif_t h g30
                            obtain ⟨g31, h⟩ := gd_some h
                            obtain ⟨g32, h⟩ := gd_some h
                            refine W_reg hT ftL_nil [(4, true), (11, true), (14, false), (18, true)] [] [4] [] (s' := ⟨[(4, .c (.s (.b ((r82_1.1.getD 0 0) == 128))))], [], []⟩) (by kernel_rfl) (allP_cons.2 ⟨g27, (allP_cons.2 ⟨g28, (allP_cons.2 ⟨g29, (allP_cons.2 ⟨g30, (allP_cons.2 ⟨g31, (allP_cons.2 ⟨g32, allP_nil⟩)⟩)⟩)⟩)⟩)⟩) ?_
                            refine W_co [] [4] [] (s' := (stays_R ((r82_1.1.getD 0 0) == 128))) (by kernel_rfl) (W_ret ?_)
                            exact ⟨.inl rfl, by cases h; rfl⟩
                          · replace h := bif_f h g30
                            refine W_reg hT ftL_nil [(4, true), (11, true), (14, false), (18, false)] [] [4] [] (s' := ⟨[(4, .c (.s (.b false)))], [], []⟩) (by kernel_rfl) (allP_cons.2 ⟨g27, (allP_cons.2 ⟨g28, (allP_cons.2 ⟨g29, (allP_cons.2 ⟨g30, allP_nil⟩)⟩)⟩)⟩) ?_
                            refine W_co [] [4] [] (s' := (stays_R false)) (by kernel_rfl) (W_ret ?_)
                            exact ⟨.inl rfl, by cases h; rfl⟩
                      · replace h := bif_f h g28
                        refine W_reg hT ftL_nil [(4, true), (11, false)] [] [4] [] (s' := ⟨[(4, .c (.s (.b false)))], [], []⟩) (by kernel_rfl) (allP_cons.2 ⟨g27, (allP_cons.2 ⟨g28, allP_nil⟩)⟩) ?_
                        refine W_co [] [4] [] (s' := (stays_R false)) (by kernel_rfl) (W_ret ?_)
                        exact ⟨.inl rfl, by cases h; rfl⟩
                    · replace h := bif_f h g27
                      refine W_reg hT ftL_nil [(4, false)] [] [4] [] (s' := ⟨[(4, .c (.s (.b false)))], [], []⟩) (by kernel_rfl) (allP_cons.2 ⟨g27, allP_nil⟩) ?_
                      refine W_co [] [4] [] (s' := (stays_R false)) (by kernel_rfl) (W_ret ?_)
                      exact ⟨.inl rfl, by cases h; rfl⟩
  · rintro e s' ⟨he, rfl⟩
    refine ⟨he, fun a' w' hr => ?_⟩
    exact retS_ok tabO_shf hr (rs := [.tmp 4]) rfl (objs := []) (by kernel_rfl)
end Go.Proofs.YtmdijgmnopidpaaDoor
