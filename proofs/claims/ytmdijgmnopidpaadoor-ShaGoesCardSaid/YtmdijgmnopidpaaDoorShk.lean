import Derived.Test.YtmdijgmnopidpaaDoorSxT
import Derived.Test.YtmdijgmnopidpaaDoorProg
import Derived.Test.YtmdijgmnopidpaaDoorShj
set_option linter.unusedVariables false
set_option linter.unusedSimpArgs false
namespace Go.Proofs.YtmdijgmnopidpaaDoor
open Go.RowKit Go.Ch Go.Sx

def tabL_shk : List (TypeId × Ti) := [(3, ⟨.int .i64, 1, 8, true, some [.int .i64]⟩),
  (5, ⟨.int .u8, 1, 1, true, some [.int .u8]⟩),
  (22, ⟨.arr 64 5, 64, 64, true, some [.int .u8, .int .u8, .int .u8, .int .u8, .int .u8, .int .u8, .int .u8, .int .u8, .int .u8, .int .u8, .int .u8, .int .u8, .int .u8, .int .u8, .int .u8, .int .u8, .int .u8, .int .u8, .int .u8, .int .u8, .int .u8, .int .u8, .int .u8, .int .u8, .int .u8, .int .u8, .int .u8, .int .u8, .int .u8, .int .u8, .int .u8, .int .u8, .int .u8, .int .u8, .int .u8, .int .u8, .int .u8, .int .u8, .int .u8, .int .u8, .int .u8, .int .u8, .int .u8, .int .u8, .int .u8, .int .u8, .int .u8, .int .u8, .int .u8, .int .u8, .int .u8, .int .u8, .int .u8, .int .u8, .int .u8, .int .u8, .int .u8, .int .u8, .int .u8, .int .u8, .int .u8, .int .u8, .int .u8, .int .u8]⟩),
  (24, ⟨.int .u32, 1, 4, true, some [.int .u32]⟩),
  (28, ⟨.arr 8 24, 8, 32, true, some [.int .u32, .int .u32, .int .u32, .int .u32, .int .u32, .int .u32, .int .u32, .int .u32]⟩),
  (36, ⟨.sl 5, 1, 24, false, some [.nils]⟩),
  (38, ⟨.ifc, 1, 16, true, some [.ifc]⟩),
  (41, ⟨.int .i64, 1, 8, true, some [.int .i64]⟩)]
def tab_shk : Tab := fun t => (tabL_shk).lookup t
theorem tabE_shk : (tabL_shk.map fun p => tiOf Tryd.prog p.1) = tabL_shk.map fun p => some p.2 := by kernel_rfl
theorem tabO_shk : TabOk Tryd.prog tab_shk := tab_of tabE_shk

def cutS (n : Nat) (a0 : List UInt8) (a1 : Int) : Option (List UInt8 × Nat) :=
  bif (decide (a1 < ((a0.length : Nat) : Int))) then
    gd (0 ≤ a1) <|
    gd (a1 ≤ ((a0.length : Nat) : Int)) <|
    some (((a0.drop 0).take a1.toNat), a1.toNat)
  else
    some (a0, a0.length)
def tail_l1 (n : Nat) (a0 : Int) : Nat → List UInt8 → Int → Option (List UInt8 × Option Int)
  | 0, _, _ => none
  | fu_l1 + 1, l4_6, i5_1 =>
    bif (decide ((0 : Int) ≤ i5_1)) then
      gd (okI .i64 (8 * a0)) <|
      gd (0 ≤ i5_1) <|
      gd (i5_1 ≤ (((IntKind.i64).bits : Nat) : Int)) <|
      gd (rmB (l4_6.length + 1) 1) <|
      gd (okI .i64 (i5_1 - 8)) <|
      (tail_l1 n a0 fu_l1) (l4_6 ++ [(UInt8.ofInt ((8 * a0) / 2 ^ i5_1.toNat))]) (i5_1 - 8)
    else
      some (l4_6, none)
def tail_j1 (n : Nat) (a0 : Int) (l4_5 : List UInt8) : Option (List UInt8 × Option Int) :=
  tail_l1 n a0 n l4_5 56
def tail_l2 (n : Nat) (a0 : Int) : Nat → List UInt8 → Option (List UInt8 × Option Int)
  | 0, _ => none
  | fu_l2 + 1, l4_7 =>
    gd (okI .i64 (a0 + ((l4_7.length : Nat) : Int))) <|
    gd (okI .i64 ((a0 + ((l4_7.length : Nat) : Int)) + 8)) <|
    gd ((64 : Int) ≠ 0) <|
    bif ((Int.tmod ((a0 + ((l4_7.length : Nat) : Int)) + 8) 64) != 0) then
      gd (rmB (l4_7.length + 1) 1) <|
      (tail_l2 n a0 fu_l2) (l4_7 ++ [0])
    else
      tail_j1 n a0 l4_7
def tail (n : Nat) (a0 : Int) : Option (List UInt8 × Option Int) :=
  bif (decide (a0 < (0 : Int))) then
    some ([], (some 1))
  else
    bif (decide ((281474976710656 : Int) < a0)) then
      some ([], (some 1))
    else
      tail_l2 n a0 n [128]
def goes_l2 (n : Nat) (r14_1 : List UInt8 × Nat) (w7_1 : List UInt32) : Nat → Int → Option (Bool)
  | 0, _ => none
  | fu_l2 + 1, i11_1 =>
    bif (decide (i11_1 < (32 : Int))) then
      gd (0 ≤ i11_1) <|
      gd (i11_1 < (((digest consts begin8 r14_1.1).length : Nat) : Int)) <|
      gd ((4 : Int) ≠ 0) <|
      gd (okI .i64 (Int.tdiv i11_1 4)) <|
      gd (0 ≤ (Int.tdiv i11_1 4)) <|
      gd ((Int.tdiv i11_1 4) < (8 : Int)) <|
      gd ((4 : Int) ≠ 0) <|
      gd (okI .i64 (8 * (Int.tmod i11_1 4))) <|
      gd (okI .i64 (24 - (8 * (Int.tmod i11_1 4)))) <|
      gd (0 ≤ (24 - (8 * (Int.tmod i11_1 4)))) <|
      bif (((digest consts begin8 r14_1.1).getD i11_1.toNat 0) != ((shr32 (w7_1.getD ((Int.tdiv i11_1 4).toNat) 0) (24 - (8 * (Int.tmod i11_1 4)))).toUInt8)) then
        some false
      else
        gd (okI .i64 (i11_1 + 1)) <|
        (goes_l2 n r14_1 w7_1 fu_l2) (i11_1 + 1)
    else
      some true
def goes_l1 (n : Nat) (r14_1 : List UInt8 × Nat) (r18_1 : List UInt8 × Option Int) : Nat → List UInt32 → Int → Option (Bool)
  | 0, _, _ => none
  | fu_l1 + 1, w7_1, i8_1 =>
    bif (decide (i8_1 < (((([] ++ r14_1.1) ++ r18_1.1).length : Nat) : Int))) then
      gd (okI .i64 (i8_1 + 64)) <|
      gd (0 ≤ i8_1) <|
      gd (i8_1 ≤ (i8_1 + 64)) <|
      gd ((i8_1 + 64) ≤ (((([] ++ r14_1.1) ++ r18_1.1).length : Nat) : Int)) <|
      gd (okI .i64 (i8_1 + 64)) <|
      (goes_l1 n r14_1 r18_1 fu_l1) (pressL consts w7_1 (((List.replicate 64 0).take 0 ++ (((([] ++ r14_1.1) ++ r18_1.1).drop i8_1.toNat).take (((i8_1 + 64).toNat) - i8_1.toNat)).take (min (((i8_1 + 64).toNat) - i8_1.toNat) 64)) ++ (List.replicate 64 0).drop (0 + (min (((i8_1 + 64).toNat) - i8_1.toNat) 64)))) (i8_1 + 64)
    else
      gd ((r14_1.1).length ≤ 100000) <|
      bif ((((digest consts begin8 r14_1.1).length : Nat) : Int) != 32) then
        some false
      else
        goes_l2 n r14_1 w7_1 n 0
def goes (n : Nat) (a0 : List UInt8) : Option (Bool) :=
  (cutS n a0 3000).bind fun r14_1 =>
  (tail n ((r14_1.2 : Nat) : Int)).bind fun r18_1 =>
  gd (rmB (0 + r14_1.2) 1) <|
  gd (rmB ((([] ++ r14_1.1).length) + r18_1.1.length) 1) <|
  bif (!((r18_1.2).isNone)) then
    some false
  else
    gd ((64 : Int) ≠ 0) <|
    bif ((Int.tmod (((([] ++ r14_1.1) ++ r18_1.1).length : Nat) : Int) 64) != 0) then
      some false
    else
      goes_l1 n r14_1 r18_1 n [1779033703, 3144134277, 1013904242, 2773480762, 1359893119, 2600822924, 528734635, 1541459225] 0

def cutS_R (r : List UInt8 × Nat) : S := ⟨[(4, .c (.wh 0))], [], [⟨(.ro false), 5, 1, r.2, .b r.1⟩]⟩
def cutS_ct (n : Nat) (r : List UInt8 × Nat) : Ct := fun args H => match args with
  | [x0, x1] => (match aB H x0 with | some l0 => (match aI x1 with | some l1 => some ([cutS n l0 l1 = some r], shA H.length (.c (.wh 0)), shH H.length [⟨(.ro false), 5, 1, r.2, .b r.1⟩]) | none => none) | none => none)
  | _ => none
theorem cutS_ok (n : Nat) (r : List UInt8 × Nat) : FnOk Tryd.prog Tr 21 (cutS_ct n r) := by
  refine ⟨fun args H g av objs hF hg ρ w vals hG hp ha => ?_, _, Tryd.func21, by kernel_rfl, by kernel_rfl⟩
  have hI : ∀ w', Kp (fun _ => False) w w' → Tr w' := fun _ hk => Tr.keep hk.below hG
  obtain ⟨x0, x1, rfl⟩ : ∃ x0 x1, args = [x0, x1] := by
    unfold cutS_ct at hF; split at hF
    · exact ⟨_, _, rfl⟩
    · cases hF
  cases e0 : aB H x0 with
  | none => simp only [cutS_ct, e0, reduceCtorEq] at hF
  | some l0 =>
  cases e1 : aI x1 with
  | none => simp only [cutS_ct, e0, e1, reduceCtorEq] at hF
  | some l1 =>
  simp only [cutS_ct, e0, e1, Option.some.injEq, Prod.mk.injEq] at hF
  obtain ⟨rfl, rfl, rfl⟩ := hF
  obtain ⟨v0, vals, rfl, k0, ha⟩ := F2.inv ha
  obtain ⟨v1, vals, rfl, k1, ha⟩ := F2.inv ha
  obtain rfl := F2.inv0 ha
  have h : cutS n l0 l1 = some r := hg
  obtain ⟨p0, s0, o0⟩ := aB_ok hp e0 (k0) 5
  have s1 := aI_ok e1 (k1)
  have hR0 := rel0 (n := 13) (w := w) (args := [.c (.wh 0), .c (.s (.k .i64 l1))]) (H := [⟨.ro false, 5, 1, l0.length, .b l0⟩]) (gl := []) (hpL (ps := [p0]) (F2.cons o0 F2.nil)) (allRo_ok rfl) (F2.cons s0 (F2.cons s1 F2.nil)) GlR.nil (by simp)
  clear ha hp hg k0 k1 e0 e1
  refine calls_W Tryd.func21 rfl rfl hR0 (Q := fun e s => (e = .ret ∨ e = .normal) ∧ s = cutS_R r) ?_ ?_
  · clear hR0
    unfold cutS at h
    have hT := tabO_shk
    refine W_seq ?_
    refine W_reg hT ftL_nil [] [] [0, 1] [0] (s' := ⟨[(0, .c (.wh 0)), (1, .c (.s (.k .i64 l1)))], [], [⟨(.ro false), 5, 1, l0.length, .b l0⟩]⟩) (by kernel_rfl) allP_nil ?_
    refine W_seq ?_
    refine W_seq ?_
    refine W_reg hT ftL_nil [] [] [0, 1, 8] [0] (s' := ⟨[(0, .c (.wh 0)), (1, .c (.s (.k .i64 l1))), (8, .c (.s (.b (decide (l1 < ((l0.length : Nat) : Int))))))], [], [⟨(.ro false), 5, 1, l0.length, .b l0⟩]⟩) (by kernel_rfl) allP_nil ?_
    refine W_cond (b := (decide (l1 < ((l0.length : Nat) : Int)))) (by kernel_rfl) (fun g3 => ?_) (fun g3 => ?_)
    · replace h := bif_t h g3
      refine W_seq ?_
      obtain ⟨g1, h⟩ := gd_some h
      obtain ⟨g2, h⟩ := gd_some h
      refine W_reg hT ftL_nil [] [] [4] [0] (s' := ⟨[(4, .c (.sl 0 0 l1.toNat))], [], [⟨(.ro false), 5, 1, l0.length, .b l0⟩]⟩) (by kernel_rfl) (allP_cons.2 ⟨g1, (allP_cons.2 ⟨g2, allP_nil⟩)⟩) ?_
      refine W_co [.vw 4 false] [4] [1] (s' := (cutS_R (((l0.drop 0).take l1.toNat), l1.toNat))) (by kernel_rfl) (W_ret ?_)
      exact ⟨.inl rfl, by cases h; rfl⟩
    · replace h := bif_f h g3
      refine W_co [] [0] [0] (s' := ⟨[(0, .c (.wh 0))], [], [⟨(.ro false), 5, 1, l0.length, .b l0⟩]⟩) (by kernel_rfl) (W_skip ?_)
      refine W_seq ?_
      refine W_reg hT ftL_nil [] [] [4] [0] (s' := ⟨[(4, .c (.wh 0))], [], [⟨(.ro false), 5, 1, l0.length, .b l0⟩]⟩) (by kernel_rfl) allP_nil ?_
      refine W_co [] [4] [0] (s' := (cutS_R (l0, l0.length))) (by kernel_rfl) (W_ret ?_)
      exact ⟨.inl rfl, by cases h; rfl⟩
  · rintro e s' ⟨he, rfl⟩
    refine ⟨he, fun a' w' hr => ?_⟩
    exact retS_ok tabO_shk hr (rs := [.tmp 4]) rfl (objs := [0]) (by kernel_rfl)
def tail_l1_E (a0 : Int) (l4_6 : List UInt8) (i5_1 : Int) : S := ⟨[(0, .c (.s (.k .i64 a0))), (4, .c (.wh 0)), (5, .c (.s (.k .i64 i5_1)))], [], [⟨.row, 5, 1, l4_6.length, .b l4_6⟩]⟩
def tail_l1_P (n : Nat) (a0 : Int) (r : List UInt8 × Option Int) (fu : Nat) : S → Prop := fun s => ∃ (l4_6 : List UInt8), ∃ (i5_1 : Int), s = tail_l1_E a0 l4_6 i5_1 ∧ tail_l1 n a0 fu l4_6 i5_1 = some r
theorem tail_l1_M {n : Nat} {a0 : Int} {l4_6 : List UInt8} {i5_1 : Int} {r : List UInt8 × Option Int} {fu : Nat} (h : tail_l1 n a0 fu l4_6 i5_1 = some r) : tail_l1_P n a0 r fu (tail_l1_E a0 l4_6 i5_1) := ⟨l4_6, i5_1, rfl, h⟩
def tail_j1_E (a0 : Int) (l4_5 : List UInt8) : S := ⟨[(0, .c (.s (.k .i64 a0))), (4, .c (.wh 0))], [], [⟨.row, 5, 1, l4_5.length, .b l4_5⟩]⟩
def tail_j1_P (n : Nat) (a0 : Int) (r : List UInt8 × Option Int) : S → Prop := fun s => ∃ (l4_5 : List UInt8), s = tail_j1_E a0 l4_5 ∧ tail_j1 n a0 l4_5 = some r
theorem tail_j1_M {n : Nat} {a0 : Int} {l4_5 : List UInt8} {r : List UInt8 × Option Int} (h : tail_j1 n a0 l4_5 = some r) : tail_j1_P n a0 r (tail_j1_E a0 l4_5) := ⟨l4_5, rfl, h⟩
def tail_l2_E (a0 : Int) (l4_7 : List UInt8) : S := ⟨[(0, .c (.s (.k .i64 a0))), (4, .c (.wh 0))], [], [⟨.row, 5, 1, l4_7.length, .b l4_7⟩]⟩
def tail_l2_P (n : Nat) (a0 : Int) (r : List UInt8 × Option Int) (fu : Nat) : S → Prop := fun s => ∃ (l4_7 : List UInt8), s = tail_l2_E a0 l4_7 ∧ tail_l2 n a0 fu l4_7 = some r
theorem tail_l2_M {n : Nat} {a0 : Int} {l4_7 : List UInt8} {r : List UInt8 × Option Int} {fu : Nat} (h : tail_l2 n a0 fu l4_7 = some r) : tail_l2_P n a0 r fu (tail_l2_E a0 l4_7) := ⟨l4_7, rfl, h⟩
def tail_R (r : List UInt8 × Option Int) : S := ⟨[(2, .c (.wh 0)), (3, .c (.s (.er 41 .i64 r.2)))], [], [⟨.row, 5, 1, r.1.length, .b r.1⟩]⟩
def tail_ct (n : Nat) (r : List UInt8 × Option Int) : Ct := fun args H => match args with
  | [x0] => (match aI x0 with | some l0 => some ([tail n l0 = some r], shA H.length (.t [.c (.wh 0), .c (.s (.er 41 .i64 r.2))]), shH H.length [⟨.row, 5, 1, r.1.length, .b r.1⟩]) | none => none)
  | _ => none
theorem tail_ok (n : Nat) (r : List UInt8 × Option Int) : FnOk Tryd.prog Tr 19 (tail_ct n r) := by
  refine ⟨fun args H g av objs hF hg ρ w vals hG hp ha => ?_, _, Tryd.func19, by kernel_rfl, by kernel_rfl⟩
  have hI : ∀ w', Kp (fun _ => False) w w' → Tr w' := fun _ hk => Tr.keep hk.below hG
  obtain ⟨x0, rfl⟩ : ∃ x0, args = [x0] := by
    unfold tail_ct at hF; split at hF
    · exact ⟨_, rfl⟩
    · cases hF
  cases e0 : aI x0 with
  | none => simp only [tail_ct, e0, reduceCtorEq] at hF
  | some l0 =>
  simp only [tail_ct, e0, Option.some.injEq, Prod.mk.injEq] at hF
  obtain ⟨rfl, rfl, rfl⟩ := hF
  obtain ⟨v0, vals, rfl, k0, ha⟩ := F2.inv ha
  obtain rfl := F2.inv0 ha
  have h : tail n l0 = some r := hg
  have s0 := aI_ok e0 (k0)
  have hR0 := rel0 (n := 37) (w := w) (args := [.c (.s (.k .i64 l0))]) (H := []) (gl := []) (hpL (ps := []) F2.nil) (allRo_ok rfl) (F2.cons s0 F2.nil) GlR.nil (by simp)
  clear ha hp hg k0 e0
  refine calls_W Tryd.func19 rfl rfl hR0 (Q := fun e s => (e = .ret ∨ e = .normal) ∧ s = tail_R r) ?_ ?_
  · clear hR0
    unfold tail at h
    have hT := tabO_shk
    refine W_seq ?_
    refine W_reg hT ftL_nil [] [] [0] [] (s' := ⟨[(0, .c (.s (.k .i64 l0)))], [], []⟩) (by kernel_rfl) allP_nil ?_
    refine W_seq ?_
    refine W_seq ?_
    rcases Bool.eq_false_or_eq_true (decide (l0 < (0 : Int))) with g1 | g1
    · replace h := bif_t h g1
      refine W_reg hT ftL_nil [(2, true)] [] [0, 11] [] (s' := ⟨[(0, .c (.s (.k .i64 l0))), (11, .c (.s (.b true)))], [], []⟩) (by kernel_rfl) (allP_cons.2 ⟨g1, allP_nil⟩) ?_
      refine W_cond (b := true) (by kernel_rfl) (fun _ => ?_) (fun hb => by cases hb)
      refine W_seq ?_
      refine W_reg hT ftL_nil [] [] [2, 3] [] (s' := ⟨[(2, .c (.nils)), (3, .c (.s (.er 41 .i64 (some 1))))], [], []⟩) (by kernel_rfl) allP_nil ?_
      refine W_co [.nil 2 5 1 (.b [])] [2, 3] [0] (s' := (tail_R ([], (some 1)))) (by kernel_rfl) (W_ret ?_)
      exact ⟨.inl rfl, by cases h; rfl⟩
    · replace h := bif_f h g1
      refine W_reg hT ftL_nil [(2, false)] [] [0, 11] [] (s' := ⟨[(0, .c (.s (.k .i64 l0))), (11, .c (.s (.b (decide ((281474976710656 : Int) < l0)))))], [], []⟩) (by kernel_rfl) (allP_cons.2 ⟨g1, allP_nil⟩) ?_
      refine W_cond (b := (decide ((281474976710656 : Int) < l0))) (by kernel_rfl) (fun g13 => ?_) (fun g13 => ?_)
      · replace h := bif_t h g13
        refine W_seq ?_
        refine W_reg hT ftL_nil [] [] [2, 3] [] (s' := ⟨[(2, .c (.nils)), (3, .c (.s (.er 41 .i64 (some 1))))], [], []⟩) (by kernel_rfl) allP_nil ?_
        refine W_co [.nil 2 5 1 (.b [])] [2, 3] [0] (s' := (tail_R ([], (some 1)))) (by kernel_rfl) (W_ret ?_)
        exact ⟨.inl rfl, by cases h; rfl⟩
      · replace h := bif_f h g13
        refine W_co [] [0] [] (s' := ⟨[(0, .c (.s (.k .i64 l0)))], [], []⟩) (by kernel_rfl) (W_skip ?_)
        refine W_seq ?_
        refine W_reg hT ftL_nil [] [] [0, 4] [0] (s' := ⟨[(0, .c (.s (.k .i64 l0))), (4, .c (.wh 0))], [], [⟨.row, 5, 1, 1, .b [128]⟩]⟩) (by kernel_rfl) allP_nil ?_
        refine W_join (tail_j1_P n l0 r) ?_ ?_
        · rintro _ ⟨l4_5, rfl, h⟩
          unfold tail_j1 at h
          refine W_seq ?_
          refine W_seq ?_
          refine W_reg hT ftL_nil [] [] [0, 4, 5] [0] (s' := ⟨[(0, .c (.s (.k .i64 l0))), (4, .c (.wh 0)), (5, .c (.s (.k .i64 56)))], [], [⟨.row, 5, 1, l4_5.length, .b l4_5⟩]⟩) (by kernel_rfl) allP_nil ?_
          refine W_block ?_
          refine W_co [] [0, 4, 5] [0] (s' := (tail_l1_E l0 l4_5 56)) (by kernel_rfl) (W_lp ((tail_l1_P n l0 r)) n (tail_l1_M h) ?_)
          rintro fu_l1 _ ⟨l4_6, i5_1, rfl, h⟩
          cases fu_l1 with
          | zero => cases h
          | succ fu_l1 =>
            refine ⟨fu_l1, rfl, ?_⟩
            rw [tail_l1] at h
            refine W_seq ?_
            refine W_seq ?_
            refine W_reg hT ftL_nil [] [] [0, 4, 5, 25] [0] (s' := ⟨[(0, .c (.s (.k .i64 l0))), (4, .c (.wh 0)), (5, .c (.s (.k .i64 i5_1))), (25, .c (.s (.b (decide ((0 : Int) ≤ i5_1)))))], [], [⟨.row, 5, 1, l4_6.length, .b l4_6⟩]⟩) (by kernel_rfl) allP_nil ?_
            refine W_cond (b := (decide ((0 : Int) ≤ i5_1))) (by kernel_rfl) (fun g7 => ?_) (fun g7 => ?_)
            · replace h := bif_t h g7
              refine W_co [] [0, 4, 5] [0] (s' := ⟨[(0, .c (.s (.k .i64 l0))), (4, .c (.wh 0)), (5, .c (.s (.k .i64 i5_1)))], [], [⟨.row, 5, 1, l4_6.length, .b l4_6⟩]⟩) (by kernel_rfl) (W_skip ?_)
              refine W_seq ?_
              refine W_block ?_
              obtain ⟨g2, h⟩ := gd_some h
              obtain ⟨g3, h⟩ := gd_some h
              obtain ⟨g4, h⟩ := gd_some h
              obtain ⟨g5, h⟩ := gd_some h
              refine W_reg hT ftL_nil [] [] [0, 4, 5] [2] (s' := ⟨[(0, .c (.s (.k .i64 l0))), (4, .c (.wh 0)), (5, .c (.s (.k .i64 i5_1)))], [], [⟨.row, 5, 1, (l4_6 ++ [(UInt8.ofInt ((8 * l0) / 2 ^ i5_1.toNat))]).length, .b (l4_6 ++ [(UInt8.ofInt ((8 * l0) / 2 ^ i5_1.toNat))])⟩]⟩) (by kernel_rfl) (allP_cons.2 ⟨g2, (allP_cons.2 ⟨g3, (allP_cons.2 ⟨g4, (allP_cons.2 ⟨g5, allP_nil⟩)⟩)⟩)⟩) ?_
              obtain ⟨g6, h⟩ := gd_some h
              refine W_reg hT ftL_nil [] [] [0, 4, 5] [0] (s' := (tail_l1_E l0 (l4_6 ++ [(UInt8.ofInt ((8 * l0) / 2 ^ i5_1.toNat))]) (i5_1 - 8))) (by kernel_rfl) (allP_cons.2 ⟨g6, allP_nil⟩) ?_
              exact tail_l1_M h
            · replace h := bif_f h g7
              refine W_co [] [4] [0] (s' := ⟨[(4, .c (.wh 0))], [], [⟨.row, 5, 1, l4_6.length, .b l4_6⟩]⟩) (by kernel_rfl) (W_exit ?_)
              refine W_seq ?_
              refine W_reg hT ftL_nil [] [] [2, 3] [0] (s' := ⟨[(2, .c (.wh 0)), (3, .c (.s (.v .nilIface)))], [], [⟨.row, 5, 1, l4_6.length, .b l4_6⟩]⟩) (by kernel_rfl) allP_nil ?_
              refine W_co [.er 3 41 .i64] [2, 3] [0] (s' := (tail_R (l4_6, none))) (by kernel_rfl) (W_ret ?_)
              exact ⟨.inl rfl, by cases h; rfl⟩
        · refine W_block ?_
          refine W_co [] [0, 4] [0] (s' := (tail_l2_E l0 [128])) (by kernel_rfl) (W_lp ((tail_l2_P n l0 r)) n (tail_l2_M h) ?_)
          rintro fu_l2 _ ⟨l4_7, rfl, h⟩
          cases fu_l2 with
          | zero => cases h
          | succ fu_l2 =>
            refine ⟨fu_l2, rfl, ?_⟩
            rw [tail_l2] at h
            refine W_seq ?_
            refine W_seq ?_
            obtain ⟨g8, h⟩ := gd_some h
            obtain ⟨g9, h⟩ := gd_some h
            obtain ⟨g10, h⟩ := gd_some h
            refine W_reg hT ftL_nil [] [] [0, 4, 20] [0] (s' := ⟨[(0, .c (.s (.k .i64 l0))), (4, .c (.wh 0)), (20, .c (.s (.b ((Int.tmod ((l0 + ((l4_7.length : Nat) : Int)) + 8) 64) != 0))))], [], [⟨.row, 5, 1, l4_7.length, .b l4_7⟩]⟩) (by kernel_rfl) (allP_cons.2 ⟨g8, (allP_cons.2 ⟨g9, (allP_cons.2 ⟨g10, allP_nil⟩)⟩)⟩) ?_
            refine W_cond (b := ((Int.tmod ((l0 + ((l4_7.length : Nat) : Int)) + 8) 64) != 0)) (by kernel_rfl) (fun g12 => ?_) (fun g12 => ?_)
            · replace h := bif_t h g12
              refine W_co [] [0, 4] [0] (s' := ⟨[(0, .c (.s (.k .i64 l0))), (4, .c (.wh 0))], [], [⟨.row, 5, 1, l4_7.length, .b l4_7⟩]⟩) (by kernel_rfl) (W_skip ?_)
              refine W_block ?_
              obtain ⟨g11, h⟩ := gd_some h
              refine W_reg hT ftL_nil [] [] [0, 4] [2] (s' := (tail_l2_E l0 (l4_7 ++ [0]))) (by kernel_rfl) (allP_cons.2 ⟨g11, allP_nil⟩) ?_
              exact tail_l2_M h
            · replace h := bif_f h g12
              refine W_co [] [0, 4] [0] (s' := (tail_j1_E l0 l4_7)) (by kernel_rfl) (W_exit ?_)
              exact tail_j1_M h
  · rintro e s' ⟨he, rfl⟩
    refine ⟨he, fun a' w' hr => ?_⟩
    exact retS_ok tabO_shk hr (rs := [.tmp 2, .tmp 3]) rfl (objs := [0]) (by kernel_rfl)
def goes_l2_E (r14_1 : List UInt8 × Nat) (w7_1 : List UInt32) (i11_1 : Int) : S := ⟨[(3, .c (.s (.b true))), (7, .c (.pt 0 0)), (10, .c (.wh 1)), (11, .c (.s (.k .i64 i11_1)))], [], [⟨.blk, 28, 1, 8, .w w7_1⟩, ⟨.row, 5, 1, (digest consts begin8 r14_1.1).length, .b (digest consts begin8 r14_1.1)⟩]⟩
def goes_l2_P (n : Nat) (r14_1 : List UInt8 × Nat) (w7_1 : List UInt32) (r : Bool) (fu : Nat) : S → Prop := fun s => ∃ (i11_1 : Int), s = goes_l2_E r14_1 w7_1 i11_1 ∧ goes_l2 n r14_1 w7_1 fu i11_1 = some r
theorem goes_l2_M {n : Nat} {r14_1 : List UInt8 × Nat} {w7_1 : List UInt32} {i11_1 : Int} {r : Bool} {fu : Nat} (h : goes_l2 n r14_1 w7_1 fu i11_1 = some r) : goes_l2_P n r14_1 w7_1 r fu (goes_l2_E r14_1 w7_1 i11_1) := ⟨i11_1, rfl, h⟩
def goes_l1_E (r14_1 : List UInt8 × Nat) (r18_1 : List UInt8 × Option Int) (w7_1 : List UInt32) (i8_1 : Int) : S := ⟨[(0, .c (.wh 0)), (3, .c (.s (.b true))), (6, .c (.wh 1)), (7, .c (.pt 2 0)), (8, .c (.s (.k .i64 i8_1)))], [], [⟨(.ro false), 5, 1, r14_1.2, .b r14_1.1⟩, ⟨.row, 5, 1, (([] ++ r14_1.1) ++ r18_1.1).length, .b (([] ++ r14_1.1) ++ r18_1.1)⟩, ⟨.blk, 28, 1, 8, .w w7_1⟩]⟩
def goes_l1_P (n : Nat) (r14_1 : List UInt8 × Nat) (r18_1 : List UInt8 × Option Int) (r : Bool) (fu : Nat) : S → Prop := fun s => ∃ (w7_1 : List UInt32), ∃ (i8_1 : Int), s = goes_l1_E r14_1 r18_1 w7_1 i8_1 ∧ goes_l1 n r14_1 r18_1 fu w7_1 i8_1 = some r
theorem goes_l1_M {n : Nat} {r14_1 : List UInt8 × Nat} {r18_1 : List UInt8 × Option Int} {w7_1 : List UInt32} {i8_1 : Int} {r : Bool} {fu : Nat} (h : goes_l1 n r14_1 r18_1 fu w7_1 i8_1 = some r) : goes_l1_P n r14_1 r18_1 r fu (goes_l1_E r14_1 r18_1 w7_1 i8_1) := ⟨w7_1, i8_1, rfl, h⟩
def goes_R (r : Bool) : S := ⟨[(2, .c (.s (.b r)))], [], []⟩
def goes_ct (n : Nat) (r : Bool) : Ct := fun args H => match args with
  | [x0] => (match aB H x0 with | some l0 => some ([goes n l0 = some r], shA H.length (.c (.s (.b r))), shH H.length []) | none => none)
  | _ => none
theorem goes_ok (n : Nat) (r : Bool) : FnOk Tryd.prog GK 9 (goes_ct n r) := by
  refine ⟨fun args H g av objs hF hg ρ w vals hG hp ha => ?_, _, Tryd.func9, by kernel_rfl, by kernel_rfl⟩
  have hI : ∀ w', Kp (fun _ => False) w w' → GK w' := fun _ hk => GK.keep hk.below hG
  obtain ⟨x0, rfl⟩ : ∃ x0, args = [x0] := by
    unfold goes_ct at hF; split at hF
    · exact ⟨_, rfl⟩
    · cases hF
  cases e0 : aB H x0 with
  | none => simp only [goes_ct, e0, reduceCtorEq] at hF
  | some l0 =>
  simp only [goes_ct, e0, Option.some.injEq, Prod.mk.injEq] at hF
  obtain ⟨rfl, rfl, rfl⟩ := hF
  obtain ⟨v0, vals, rfl, k0, ha⟩ := F2.inv ha
  obtain rfl := F2.inv0 ha
  have h : goes n l0 = some r := hg
  obtain ⟨p0, s0, o0⟩ := aB_ok hp e0 (k0) 5
  have hR0 := rel0 (n := 76) (w := w) (args := [.c (.wh 0)]) (H := [⟨.ro false, 5, 1, l0.length, .b l0⟩]) (gl := []) (hpL (ps := [p0]) (F2.cons o0 F2.nil)) (allRo_ok rfl) (F2.cons s0 F2.nil) GlR.nil (by simp)
  clear ha hp hg k0 e0
  refine calls_W Tryd.func9 rfl rfl hR0 (Q := fun e s => (e = .ret ∨ e = .normal) ∧ s = goes_R r) ?_ ?_
  · clear hR0
    unfold goes at h
    have hT := tabO_shk
    refine W_seq ?_
    refine W_reg hT ftL_nil [] [] [0] [0] (s' := ⟨[(0, .c (.wh 0))], [], [⟨(.ro false), 5, 1, l0.length, .b l0⟩]⟩) (by kernel_rfl) allP_nil ?_
    refine W_seq ?_
    refine W_reg hT (ftL_cons (k := 0) (f := 11) (F := up_ct) up_h hI ftL_nil) [] [] [0, 3] [0] (s' := ⟨[(0, .c (.wh 0)), (3, .c (.s (.b true)))], [], [⟨(.ro false), 5, 1, l0.length, .b l0⟩]⟩) (by kernel_rfl) allP_nil ?_
    refine W_seq ?_
    obtain ⟨r14_1, g1, h⟩ := bind_some' h
    refine W_reg hT (ftL_cons (k := 1) (f := 21) (F := (cutS_ct n r14_1)) (cutS_ok n r14_1) (fun _ _ => True.intro) ftL_nil) [] [] [0, 3] [1] (s' := ⟨[(0, .c (.wh 0)), (3, .c (.s (.b true)))], [], [⟨(.ro false), 5, 1, r14_1.2, .b r14_1.1⟩]⟩) (by kernel_rfl) (allP_cons.2 ⟨g1, allP_nil⟩) ?_
    refine W_seq ?_
    obtain ⟨r18_1, g2, h⟩ := bind_some' h
    refine W_reg hT (ftL_cons (k := 2) (f := 19) (F := (tail_ct n r18_1)) (tail_ok n r18_1) (fun _ _ => True.intro) ftL_nil) [] [] [0, 3, 4, 5] [0, 1] (s' := ⟨[(0, .c (.wh 0)), (3, .c (.s (.b true))), (4, .c (.wh 1)), (5, .c (.s (.er 41 .i64 r18_1.2)))], [], [⟨(.ro false), 5, 1, r14_1.2, .b r14_1.1⟩, ⟨.row, 5, 1, r18_1.1.length, .b r18_1.1⟩]⟩) (by kernel_rfl) (allP_cons.2 ⟨g2, allP_nil⟩) ?_
    refine W_seq ?_
    obtain ⟨g3, h⟩ := gd_some h
    obtain ⟨g4, h⟩ := gd_some h
    refine W_reg hT ftL_nil [] [] [0, 3, 5, 6] [0, 4] (s' := ⟨[(0, .c (.wh 0)), (3, .c (.s (.b true))), (5, .c (.s (.er 41 .i64 r18_1.2))), (6, .c (.wh 1))], [], [⟨(.ro false), 5, 1, r14_1.2, .b r14_1.1⟩, ⟨.row, 5, 1, (([] ++ r14_1.1) ++ r18_1.1).length, .b (([] ++ r14_1.1) ++ r18_1.1)⟩]⟩) (by kernel_rfl) (allP_cons.2 ⟨g3, (allP_cons.2 ⟨g4, allP_nil⟩)⟩) ?_
    refine W_seq ?_
    refine W_seq ?_
    rcases Bool.eq_false_or_eq_true (!((r18_1.2).isNone)) with g5 | g5
    · replace h := bif_t h g5
      refine W_reg hT ftL_nil [(2, true)] [] [0, 3, 6, 33] [0, 1] (s' := ⟨[(0, .c (.wh 0)), (3, .c (.s (.b true))), (6, .c (.wh 1)), (33, .c (.s (.b true)))], [], [⟨(.ro false), 5, 1, r14_1.2, .b r14_1.1⟩, ⟨.row, 5, 1, (([] ++ r14_1.1) ++ r18_1.1).length, .b (([] ++ r14_1.1) ++ r18_1.1)⟩]⟩) (by kernel_rfl) (allP_cons.2 ⟨g5, allP_nil⟩) ?_
      refine W_cond (b := true) (by kernel_rfl) (fun _ => ?_) (fun hb => by cases hb)
      refine W_seq ?_
      refine W_reg hT ftL_nil [] [] [2] [] (s' := ⟨[(2, .c (.s (.b false)))], [], []⟩) (by kernel_rfl) allP_nil ?_
      refine W_co [] [2] [] (s' := (goes_R false)) (by kernel_rfl) (W_ret ?_)
      exact ⟨.inl rfl, by cases h; rfl⟩
    · replace h := bif_f h g5
      obtain ⟨g6, h⟩ := gd_some h
      refine W_reg hT ftL_nil [(2, false)] [] [0, 3, 6, 33] [0, 1] (s' := ⟨[(0, .c (.wh 0)), (3, .c (.s (.b true))), (6, .c (.wh 1)), (33, .c (.s (.b ((Int.tmod (((([] ++ r14_1.1) ++ r18_1.1).length : Nat) : Int) 64) != 0))))], [], [⟨(.ro false), 5, 1, r14_1.2, .b r14_1.1⟩, ⟨.row, 5, 1, (([] ++ r14_1.1) ++ r18_1.1).length, .b (([] ++ r14_1.1) ++ r18_1.1)⟩]⟩) (by kernel_rfl) (allP_cons.2 ⟨g5, (allP_cons.2 ⟨g6, allP_nil⟩)⟩) ?_
      refine W_cond (b := ((Int.tmod (((([] ++ r14_1.1) ++ r18_1.1).length : Nat) : Int) 64) != 0)) (by kernel_rfl) (fun g28 => ?_) (fun g28 => ?_)
      · replace h := bif_t h g28
        refine W_seq ?_
        refine W_reg hT ftL_nil [] [] [2] [] (s' := ⟨[(2, .c (.s (.b false)))], [], []⟩) (by kernel_rfl) allP_nil ?_
        refine W_co [] [2] [] (s' := (goes_R false)) (by kernel_rfl) (W_ret ?_)
        exact ⟨.inl rfl, by cases h; rfl⟩
      · replace h := bif_f h g28
        refine W_co [] [0, 3, 6] [0, 1] (s' := ⟨[(0, .c (.wh 0)), (3, .c (.s (.b true))), (6, .c (.wh 1))], [], [⟨(.ro false), 5, 1, r14_1.2, .b r14_1.1⟩, ⟨.row, 5, 1, (([] ++ r14_1.1) ++ r18_1.1).length, .b (([] ++ r14_1.1) ++ r18_1.1)⟩]⟩) (by kernel_rfl) (W_skip ?_)
        refine W_seq ?_
        refine W_reg hT ftL_nil [] [] [0, 3, 6, 7] [0, 1, 2] (s' := ⟨[(0, .c (.wh 0)), (3, .c (.s (.b true))), (6, .c (.wh 1)), (7, .c (.pt 2 0))], [], [⟨(.ro false), 5, 1, r14_1.2, .b r14_1.1⟩, ⟨.row, 5, 1, (([] ++ r14_1.1) ++ r18_1.1).length, .b (([] ++ r14_1.1) ++ r18_1.1)⟩, ⟨.blk, 28, 1, 8, .w [1779033703, 3144134277, 1013904242, 2773480762, 1359893119, 2600822924, 528734635, 1541459225]⟩]⟩) (by kernel_rfl) allP_nil ?_
        refine W_seq ?_
        refine W_seq ?_
        refine W_reg hT ftL_nil [] [] [0, 3, 6, 7, 8] [0, 1, 2] (s' := ⟨[(0, .c (.wh 0)), (3, .c (.s (.b true))), (6, .c (.wh 1)), (7, .c (.pt 2 0)), (8, .c (.s (.k .i64 0)))], [], [⟨(.ro false), 5, 1, r14_1.2, .b r14_1.1⟩, ⟨.row, 5, 1, (([] ++ r14_1.1) ++ r18_1.1).length, .b (([] ++ r14_1.1) ++ r18_1.1)⟩, ⟨.blk, 28, 1, 8, .w [1779033703, 3144134277, 1013904242, 2773480762, 1359893119, 2600822924, 528734635, 1541459225]⟩]⟩) (by kernel_rfl) allP_nil ?_
        refine W_block ?_
        refine W_co [] [0, 3, 6, 7, 8] [0, 1, 2] (s' := (goes_l1_E r14_1 r18_1 [1779033703, 3144134277, 1013904242, 2773480762, 1359893119, 2600822924, 528734635, 1541459225] 0)) (by kernel_rfl) (W_lp ((goes_l1_P n r14_1 r18_1 r)) n (goes_l1_M h) ?_)
        rintro fu_l1 _ ⟨w7_1, i8_1, rfl, h⟩
        cases fu_l1 with
        | zero => cases h
        | succ fu_l1 =>
          refine ⟨fu_l1, rfl, ?_⟩
          rw [goes_l1] at h
          refine W_seq ?_
          refine W_seq ?_
          refine W_reg hT ftL_nil [] [] [0, 3, 6, 7, 8, 38] [0, 1, 2] (s' := ⟨[(0, .c (.wh 0)), (3, .c (.s (.b true))), (6, .c (.wh 1)), (7, .c (.pt 2 0)), (8, .c (.s (.k .i64 i8_1))), (38, .c (.s (.b (decide (i8_1 < (((([] ++ r14_1.1) ++ r18_1.1).length : Nat) : Int))))))], [], [⟨(.ro false), 5, 1, r14_1.2, .b r14_1.1⟩, ⟨.row, 5, 1, (([] ++ r14_1.1) ++ r18_1.1).length, .b (([] ++ r14_1.1) ++ r18_1.1)⟩, ⟨.blk, 28, 1, 8, .w w7_1⟩]⟩) (by kernel_rfl) allP_nil ?_
          refine W_cond (b := (decide (i8_1 < (((([] ++ r14_1.1) ++ r18_1.1).length : Nat) : Int)))) (by kernel_rfl) (fun g27 => ?_) (fun g27 => ?_)
          · replace h := bif_t h g27
            refine W_co [] [0, 3, 6, 7, 8] [0, 1, 2] (s' := ⟨[(0, .c (.wh 0)), (3, .c (.s (.b true))), (6, .c (.wh 1)), (7, .c (.pt 2 0)), (8, .c (.s (.k .i64 i8_1)))], [], [⟨(.ro false), 5, 1, r14_1.2, .b r14_1.1⟩, ⟨.row, 5, 1, (([] ++ r14_1.1) ++ r18_1.1).length, .b (([] ++ r14_1.1) ++ r18_1.1)⟩, ⟨.blk, 28, 1, 8, .w w7_1⟩]⟩) (by kernel_rfl) (W_skip ?_)
            refine W_seq ?_
            refine W_block ?_
            refine W_seq ?_
            refine W_reg hT ftL_nil [] [] [0, 3, 6, 7, 8, 9] [0, 1, 2, 3] (s' := ⟨[(0, .c (.wh 0)), (3, .c (.s (.b true))), (6, .c (.wh 1)), (7, .c (.pt 2 0)), (8, .c (.s (.k .i64 i8_1))), (9, .c (.pt 3 0))], [], [⟨(.ro false), 5, 1, r14_1.2, .b r14_1.1⟩, ⟨.row, 5, 1, (([] ++ r14_1.1) ++ r18_1.1).length, .b (([] ++ r14_1.1) ++ r18_1.1)⟩, ⟨.blk, 28, 1, 8, .w w7_1⟩, ⟨.blk, 22, 1, 64, .b (List.replicate 64 0)⟩]⟩) (by kernel_rfl) allP_nil ?_
            refine W_seq ?_
            obtain ⟨g7, h⟩ := gd_some h
            obtain ⟨g8, h⟩ := gd_some h
            obtain ⟨g9, h⟩ := gd_some h
            obtain ⟨g10, h⟩ := gd_some h
            refine W_regD hT ftL_nil (by kernel_rfl) 6 [] [(0, false), (3, false), (6, false), (7, false), (8, false), (9, false), (41, false), (46, false)] [] [0, 3, 6, 7, 8, 9] [0, 1, 2, 3] (s' := ⟨[(0, .c (.wh 0)), (3, .c (.s (.b true))), (6, .c (.wh 1)), (7, .c (.pt 2 0)), (8, .c (.s (.k .i64 i8_1))), (9, .c (.pt 3 0))], [], [⟨(.ro false), 5, 1, r14_1.2, .b r14_1.1⟩, ⟨.row, 5, 1, (([] ++ r14_1.1) ++ r18_1.1).length, .b (([] ++ r14_1.1) ++ r18_1.1)⟩, ⟨.blk, 28, 1, 8, .w w7_1⟩, ⟨.blk, 22, 1, 64, .b (((List.replicate 64 0).take 0 ++ (((([] ++ r14_1.1) ++ r18_1.1).drop i8_1.toNat).take (((i8_1 + 64).toNat) - i8_1.toNat)).take (min (((i8_1 + 64).toNat) - i8_1.toNat) 64)) ++ (List.replicate 64 0).drop (0 + (min (((i8_1 + 64).toNat) - i8_1.toNat) 64)))⟩]⟩) (by kernel_rfl) (by kernel_rfl) (allP_cons.2 ⟨g7, (allP_cons.2 ⟨g8, (allP_cons.2 ⟨g9, (allP_cons.2 ⟨g10, allP_nil⟩)⟩)⟩)⟩) ?_
            refine W_reg hT (ftL_cons (k := 2) (f := 16) (F := press_ct) press_h hI ftL_nil) [] [] [0, 3, 6, 7, 8] [0, 1, 2] (s' := ⟨[(0, .c (.wh 0)), (3, .c (.s (.b true))), (6, .c (.wh 1)), (7, .c (.pt 2 0)), (8, .c (.s (.k .i64 i8_1)))], [], [⟨(.ro false), 5, 1, r14_1.2, .b r14_1.1⟩, ⟨.row, 5, 1, (([] ++ r14_1.1) ++ r18_1.1).length, .b (([] ++ r14_1.1) ++ r18_1.1)⟩, ⟨.blk, 28, 1, 8, .w (pressL consts w7_1 (((List.replicate 64 0).take 0 ++ (((([] ++ r14_1.1) ++ r18_1.1).drop i8_1.toNat).take (((i8_1 + 64).toNat) - i8_1.toNat)).take (min (((i8_1 + 64).toNat) - i8_1.toNat) 64)) ++ (List.replicate 64 0).drop (0 + (min (((i8_1 + 64).toNat) - i8_1.toNat) 64))))⟩]⟩) (by kernel_rfl) allP_nil ?_
            obtain ⟨g11, h⟩ := gd_some h
            refine W_reg hT ftL_nil [] [] [0, 3, 6, 7, 8] [0, 1, 2] (s' := (goes_l1_E r14_1 r18_1 (pressL consts w7_1 (((List.replicate 64 0).take 0 ++ (((([] ++ r14_1.1) ++ r18_1.1).drop i8_1.toNat).take (((i8_1 + 64).toNat) - i8_1.toNat)).take (min (((i8_1 + 64).toNat) - i8_1.toNat) 64)) ++ (List.replicate 64 0).drop (0 + (min (((i8_1 + 64).toNat) - i8_1.toNat) 64)))) (i8_1 + 64))) (by kernel_rfl) (allP_cons.2 ⟨g11, allP_nil⟩) ?_
            exact goes_l1_M h
          · replace h := bif_f h g27
            refine W_co [] [0, 3, 7] [0, 2] (s' := ⟨[(0, .c (.wh 0)), (3, .c (.s (.b true))), (7, .c (.pt 1 0))], [], [⟨(.ro false), 5, 1, r14_1.2, .b r14_1.1⟩, ⟨.blk, 28, 1, 8, .w w7_1⟩]⟩) (by kernel_rfl) (W_exit ?_)
            refine W_seq ?_
            obtain ⟨g12, h⟩ := gd_some h
            refine W_reg hT (ftL_cons (k := 1) (f := 22) (F := sum_ct) sum_h hI ftL_nil) [] [] [3, 7, 10] [1, 2] (s' := ⟨[(3, .c (.s (.b true))), (7, .c (.pt 0 0)), (10, .c (.wh 1))], [], [⟨.blk, 28, 1, 8, .w w7_1⟩, ⟨.row, 5, 1, (digest consts begin8 r14_1.1).length, .b (digest consts begin8 r14_1.1)⟩]⟩) (by kernel_rfl) (allP_cons.2 ⟨g12, allP_nil⟩) ?_
            refine W_seq ?_
            refine W_seq ?_
            refine W_reg hT ftL_nil [] [] [3, 7, 10, 55] [0, 1] (s' := ⟨[(3, .c (.s (.b true))), (7, .c (.pt 0 0)), (10, .c (.wh 1)), (55, .c (.s (.b ((((digest consts begin8 r14_1.1).length : Nat) : Int) != 32))))], [], [⟨.blk, 28, 1, 8, .w w7_1⟩, ⟨.row, 5, 1, (digest consts begin8 r14_1.1).length, .b (digest consts begin8 r14_1.1)⟩]⟩) (by kernel_rfl) allP_nil ?_
            refine W_cond (b := ((((digest consts begin8 r14_1.1).length : Nat) : Int) != 32)) (by kernel_rfl) (fun g26 => ?_) (fun g26 => ?_)
            · replace h := bif_t h g26
              refine W_seq ?_
              refine W_reg hT ftL_nil [] [] [2] [] (s' := ⟨[(2, .c (.s (.b false)))], [], []⟩) (by kernel_rfl) allP_nil ?_
              refine W_co [] [2] [] (s' := (goes_R false)) (by kernel_rfl) (W_ret ?_)
              exact ⟨.inl rfl, by cases h; rfl⟩
            · replace h := bif_f h g26
              refine W_co [] [3, 7, 10] [0, 1] (s' := ⟨[(3, .c (.s (.b true))), (7, .c (.pt 0 0)), (10, .c (.wh 1))], [], [⟨.blk, 28, 1, 8, .w w7_1⟩, ⟨.row, 5, 1, (digest consts begin8 r14_1.1).length, .b (digest consts begin8 r14_1.1)⟩]⟩) (by kernel_rfl) (W_skip ?_)
              refine W_seq ?_
              refine W_seq ?_
              refine W_reg hT ftL_nil [] [] [3, 7, 10, 11] [0, 1] (s' := ⟨[(3, .c (.s (.b true))), (7, .c (.pt 0 0)), (10, .c (.wh 1)), (11, .c (.s (.k .i64 0)))], [], [⟨.blk, 28, 1, 8, .w w7_1⟩, ⟨.row, 5, 1, (digest consts begin8 r14_1.1).length, .b (digest consts begin8 r14_1.1)⟩]⟩) (by kernel_rfl) allP_nil ?_
              refine W_block ?_
              refine W_co [] [3, 7, 10, 11] [0, 1] (s' := (goes_l2_E r14_1 w7_1 0)) (by kernel_rfl) (W_lp ((goes_l2_P n r14_1 w7_1 r)) n (goes_l2_M h) ?_)
              rintro fu_l2 _ ⟨i11_1, rfl, h⟩
              cases fu_l2 with
              | zero => cases h
              | succ fu_l2 =>
                refine ⟨fu_l2, rfl, ?_⟩
                rw [goes_l2] at h
                refine W_seq ?_
                refine W_seq ?_
                refine W_reg hT ftL_nil [] [] [3, 7, 10, 11, 57] [0, 1] (s' := ⟨[(3, .c (.s (.b true))), (7, .c (.pt 0 0)), (10, .c (.wh 1)), (11, .c (.s (.k .i64 i11_1))), (57, .c (.s (.b (decide (i11_1 < (32 : Int))))))], [], [⟨.blk, 28, 1, 8, .w w7_1⟩, ⟨.row, 5, 1, (digest consts begin8 r14_1.1).length, .b (digest consts begin8 r14_1.1)⟩]⟩) (by kernel_rfl) allP_nil ?_
                refine W_cond (b := (decide (i11_1 < (32 : Int)))) (by kernel_rfl) (fun g25 => ?_) (fun g25 => ?_)
                · replace h := bif_t h g25
                  refine W_co [] [3, 7, 10, 11] [0, 1] (s' := ⟨[(3, .c (.s (.b true))), (7, .c (.pt 0 0)), (10, .c (.wh 1)), (11, .c (.s (.k .i64 i11_1)))], [], [⟨.blk, 28, 1, 8, .w w7_1⟩, ⟨.row, 5, 1, (digest consts begin8 r14_1.1).length, .b (digest consts begin8 r14_1.1)⟩]⟩) (by kernel_rfl) (W_skip ?_)
                  refine W_seq ?_
                  refine W_block ?_
                  refine W_seq ?_
                  obtain ⟨g13, h⟩ := gd_some h
                  obtain ⟨g14, h⟩ := gd_some h
                  obtain ⟨g15, h⟩ := gd_some h
                  obtain ⟨g16, h⟩ := gd_some h
                  obtain ⟨g17, h⟩ := gd_some h
                  obtain ⟨g18, h⟩ := gd_some h
                  obtain ⟨g19, h⟩ := gd_some h
                  obtain ⟨g20, h⟩ := gd_some h
                  obtain ⟨g21, h⟩ := gd_some h
                  obtain ⟨g22, h⟩ := gd_some h
                  refine W_regD hT ftL_nil (by kernel_rfl) 14 [] [(3, false), (7, false), (10, false), (11, false), (63, false), (73, false)] [] [3, 7, 10, 11, 74] [0, 1] (s' := ⟨[(3, .c (.s (.b true))), (7, .c (.pt 0 0)), (10, .c (.wh 1)), (11, .c (.s (.k .i64 i11_1))), (74, .c (.s (.b (((digest consts begin8 r14_1.1).getD i11_1.toNat 0) != ((shr32 (w7_1.getD ((Int.tdiv i11_1 4).toNat) 0) (24 - (8 * (Int.tmod i11_1 4)))).toUInt8)))))], [], [⟨.blk, 28, 1, 8, .w w7_1⟩, ⟨.row, 5, 1, (digest consts begin8 r14_1.1).length, .b (digest consts begin8 r14_1.1)⟩]⟩) (by kernel_rfl) (by kernel_rfl) (allP_cons.2 ⟨g13, (allP_cons.2 ⟨g14, (allP_cons.2 ⟨g15, (allP_cons.2 ⟨g16, (allP_cons.2 ⟨g17, (allP_cons.2 ⟨g18, (allP_cons.2 ⟨g19, (allP_cons.2 ⟨g20, (allP_cons.2 ⟨g21, (allP_cons.2 ⟨g22, allP_nil⟩)⟩)⟩)⟩)⟩)⟩)⟩)⟩)⟩)⟩) ?_
                  refine W_cond (b := (((digest consts begin8 r14_1.1).getD i11_1.toNat 0) != ((shr32 (w7_1.getD ((Int.tdiv i11_1 4).toNat) 0) (24 - (8 * (Int.tmod i11_1 4)))).toUInt8))) (by kernel_rfl) (fun g24 => ?_) (fun g24 => ?_)
                  · replace h := bif_t h g24
                    refine W_seq ?_
                    refine W_reg hT ftL_nil [] [] [2] [] (s' := ⟨[(2, .c (.s (.b false)))], [], []⟩) (by kernel_rfl) allP_nil ?_
                    refine W_co [] [2] [] (s' := (goes_R false)) (by kernel_rfl) (W_ret ?_)
                    exact ⟨.inl rfl, by cases h; rfl⟩
                  · replace h := bif_f h g24
                    refine W_co [] [3, 7, 10, 11] [0, 1] (s' := ⟨[(3, .c (.s (.b true))), (7, .c (.pt 0 0)), (10, .c (.wh 1)), (11, .c (.s (.k .i64 i11_1)))], [], [⟨.blk, 28, 1, 8, .w w7_1⟩, ⟨.row, 5, 1, (digest consts begin8 r14_1.1).length, .b (digest consts begin8 r14_1.1)⟩]⟩) (by kernel_rfl) (W_skip ?_)
                    obtain ⟨g23, h⟩ := gd_some h
                    refine W_reg hT ftL_nil [] [] [3, 7, 10, 11] [0, 1] (s' := (goes_l2_E r14_1 w7_1 (i11_1 + 1))) (by kernel_rfl) (allP_cons.2 ⟨g23, allP_nil⟩) ?_
                    exact goes_l2_M h
                · replace h := bif_f h g25
                  refine W_co [] [3] [] (s' := ⟨[(3, .c (.s (.b true)))], [], []⟩) (by kernel_rfl) (W_exit ?_)
                  refine W_seq ?_
                  refine W_reg hT ftL_nil [] [] [2] [] (s' := ⟨[(2, .c (.s (.b true)))], [], []⟩) (by kernel_rfl) allP_nil ?_
                  refine W_co [] [2] [] (s' := (goes_R true)) (by kernel_rfl) (W_ret ?_)
                  exact ⟨.inl rfl, by cases h; rfl⟩
  · rintro e s' ⟨he, rfl⟩
    refine ⟨he, fun a' w' hr => ?_⟩
    exact retS_ok tabO_shk hr (rs := [.tmp 2]) rfl (objs := []) (by kernel_rfl)
end Go.Proofs.YtmdijgmnopidpaaDoor
