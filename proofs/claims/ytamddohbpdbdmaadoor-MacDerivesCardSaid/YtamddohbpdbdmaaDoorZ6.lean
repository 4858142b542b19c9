import Derived.Test.YtamddohbpdbdmaaDoorZ5
import Derived.Test.YtamddohbpdbdmaaDoorProg
section
set_option linter.unusedVariables false
set_option linter.unusedSimpArgs false
namespace Go.Proofs.YtamddohbpdbdmaaDoor
open Go.RowKit Go.Ch Go.Sx
def tabL_ma : List (TypeId × Ti) := [(3, ⟨.int .i64, 1, 8, true, some [.int .i64]⟩),
  (5, ⟨.int .u8, 1, 1, true, some [.int .u8]⟩),
  (9, ⟨.str, 1, 16, true, some [.str]⟩),
  (22, ⟨.sl 5, 1, 24, false, some [.nils]⟩),
  (35, ⟨.ifc, 1, 16, true, some [.ifc]⟩),
  (38, ⟨.int .i64, 1, 8, true, some [.int .i64]⟩),
  (55, ⟨.sl 22, 1, 24, false, some [.nils]⟩)]
def tab_ma : Tab := fun t => (tabL_ma).lookup t
theorem tabE_ma : (tabL_ma.map fun p => tiOf Tryd.prog p.1) = tabL_ma.map fun p => some p.2 := by kernel_rfl
theorem tabO_ma : TabOk Tryd.prog tab_ma := tab_of tabE_ma
def mpadded_l1 (n : Nat) (a1 : UInt8) : Nat → List UInt8 → Int → Option (List UInt8)
  | 0, _, _ => none
  | fu_l1 + 1, l5_2, i18_2 =>
    bif (decide (i18_2 < (64 : Int))) then
      gd (0 ≤ i18_2) <|
      gd (i18_2 < (64 : Int)) <|
      gd (0 ≤ i18_2) <|
      gd (i18_2 < (64 : Int)) <|
      gd (okI .i64 (i18_2 + 1)) <|
      (mpadded_l1 n a1 fu_l1) (l5_2.set i18_2.toNat ((l5_2.getD i18_2.toNat 0) ^^^ a1)) (i18_2 + 1)
    else
      some l5_2
def mpadded_j1 (n : Nat) (a1 : UInt8) (l0_2 : List UInt8) : Option (List UInt8) :=
  gd (0 ≤ (64 : Int)) <|
  gd ((64 : Int) = (64 : Int)) <|
  gd (rmB 64 1) <|
  mpadded_l1 n a1 n (((List.replicate 64 0).take 0 ++ l0_2.take (min l0_2.length 64)) ++ (List.replicate 64 0).drop (0 + (min l0_2.length 64))) 0
def mpadded (n : Nat) (a0 : List UInt8) (a1 : UInt8) : Option (List UInt8) :=
  bif (decide ((64 : Int) < ((a0.length : Nat) : Int))) then
    gd ((a0).length ≤ 100000) <|
    mpadded_j1 n a1 (digest consts begin8 a0)
  else
    mpadded_j1 n a1 a0
def mMark (n : Nat) (a0 : List UInt8) (a1 : List UInt8) : Option (List UInt8) :=
  (mpadded n a0 54).bind fun r7 =>
  gd ((([r7, a1] : List (List UInt8))).length ≤ 1000000) <|
  gd ((([r7, a1] : List (List UInt8))).flatten.length ≤ 1000000000) <|
  gd ((((([r7, a1] : List (List UInt8))).flatten)).length ≤ 100000) <|
  (mpadded n a0 92).bind fun r13 =>
  gd ((([r13, (digest consts begin8 ((([r7, a1] : List (List UInt8))).flatten))] : List (List UInt8))).length ≤ 1000000) <|
  gd ((([r13, (digest consts begin8 ((([r7, a1] : List (List UInt8))).flatten))] : List (List UInt8))).flatten.length ≤ 1000000000) <|
  gd ((((([r13, (digest consts begin8 ((([r7, a1] : List (List UInt8))).flatten))] : List (List UInt8))).flatten)).length ≤ 100000) <|
  some (digest consts begin8 ((([r13, (digest consts begin8 ((([r7, a1] : List (List UInt8))).flatten))] : List (List UInt8))).flatten))
def mmay (n : Nat) (a0 : Int) : Option (Option Int) :=
  bif (decide (a0 < (1 : Int))) then
    some (some 1)
  else
    bif (decide ((10000 : Int) < a0)) then
      some (some 4)
    else
      some none
def mDerive_l3 (n : Nat) (a0 : List UInt8) (a1 : List UInt8) (a2 : Int) (a3 : Int) (l11_1 : List UInt8) (i12_1 : Int) (r48_2 : List UInt8) (i53_5 : Int) (r57_8 : List UInt8) (k_l2 : (List UInt8) → (List UInt8) → Int → Option (List UInt8 × Nat × Option Int)) : Nat → List UInt8 → Int → Option (List UInt8 × Nat × Option Int)
  | 0, _, _ => none
  | fu_l3 + 1, l14_23, i60_17 =>
    bif (decide (i60_17 < (((r48_2).length : Nat) : Int))) then
      gd (0 ≤ i60_17) <|
      gd (i60_17 < (((r48_2).length : Nat) : Int)) <|
      gd (0 ≤ i60_17) <|
      gd (i60_17 < ((r57_8.length : Nat) : Int)) <|
      gd (0 ≤ i60_17) <|
      gd (i60_17 < (((r48_2).length : Nat) : Int)) <|
      gd (okI .i64 (i60_17 + 1)) <|
      (mDerive_l3 n a0 a1 a2 a3 l11_1 i12_1 r48_2 i53_5 r57_8 k_l2 fu_l3) (l14_23.set i60_17.toNat ((l14_23.getD i60_17.toNat 0) ^^^ (r57_8.getD i60_17.toNat 0))) (i60_17 + 1)
    else
      gd (okI .i64 (i53_5 + 1)) <|
      k_l2 r57_8 l14_23 (i53_5 + 1)
def mDerive_l2 (n : Nat) (a0 : List UInt8) (a1 : List UInt8) (a2 : Int) (a3 : Int) (l11_1 : List UInt8) (i12_1 : Int) (r48_2 : List UInt8) (k_l1 : (List UInt8) → Int → Option (List UInt8 × Nat × Option Int)) : Nat → List UInt8 → List UInt8 → Int → Option (List UInt8 × Nat × Option Int)
  | 0, _, _, _ => none
  | fu_l2 + 1, l13_5, l14_21, i53_5 =>
    bif (decide (i53_5 < (a2 - 1))) then
      (mMark n a0 l13_5).bind fun r57_8 =>
      mDerive_l3 n a0 a1 a2 a3 l11_1 i12_1 r48_2 i53_5 r57_8 (mDerive_l2 n a0 a1 a2 a3 l11_1 i12_1 r48_2 k_l1 fu_l2) n l14_21 0
    else
      gd (rmB (l11_1.length + ((r48_2).length)) 1) <|
      gd (okI .i64 (i12_1 + 1)) <|
      k_l1 (l11_1 ++ l14_21) (i12_1 + 1)
def mDerive_l1 (n : Nat) (a0 : List UInt8) (a1 : List UInt8) (a2 : Int) (a3 : Int) : Nat → List UInt8 → Int → Option (List UInt8 × Nat × Option Int)
  | 0, _, _ => none
  | fu_l1 + 1, l11_1, i12_1 =>
    bif (decide (((l11_1.length : Nat) : Int) < a3)) then
      gd (0 ≤ (8 : Int)) <|
      gd ((8 : Int) ≤ (((IntKind.i64).bits : Nat) : Int)) <|
      gd ((([a1, [0, 0, (UInt8.ofInt (i12_1 / 2 ^ 8)), (UInt8.ofInt i12_1)]] : List (List UInt8))).length ≤ 1000000) <|
      gd ((([a1, [0, 0, (UInt8.ofInt (i12_1 / 2 ^ 8)), (UInt8.ofInt i12_1)]] : List (List UInt8))).flatten.length ≤ 1000000000) <|
      (mMark n a0 ((([a1, [0, 0, (UInt8.ofInt (i12_1 / 2 ^ 8)), (UInt8.ofInt i12_1)]] : List (List UInt8))).flatten)).bind fun r48_2 =>
      gd ((r48_2).length ≤ 1000000000000) <|
      gd (okI .i64 (a2 - 1)) <|
      mDerive_l2 n a0 a1 a2 a3 l11_1 i12_1 r48_2 (mDerive_l1 n a0 a1 a2 a3 fu_l1) n r48_2 (r48_2) 0
    else
      gd (0 ≤ a3) <|
      gd (a3 ≤ a3) <|
      gd (a3 ≤ ((l11_1.length : Nat) : Int)) <|
      some (l11_1, a3.toNat, none)
def mDerive (n : Nat) (a0 : List UInt8) (a1 : List UInt8) (a2 : Int) (a3 : Int) : Option (List UInt8 × Nat × Option Int) :=
  bif (decide (a3 < (0 : Int))) then
    some ([], 0, (some 1))
  else
    bif (decide (a2 < (1 : Int))) then
      some ([], 0, (some 1))
    else
      (mmay n a2).bind fun r24 =>
      bif (!((r24).isNone)) then
        some ([], 0, (some 4))
      else
        bif (decide ((256 : Int) < a3)) then
          some ([], 0, (some 4))
        else
          mDerive_l1 n a0 a1 a2 a3 n [] 1
def mup (n : Nat) : Option (Bool) :=
  (mDerive n [112, 97, 115, 115, 119, 100] [115, 97, 108, 116] 1 16).bind fun r10 =>
  (mMark n [74, 101, 102, 101] [119, 104, 97, 116, 32, 100, 111, 32, 121, 97, 32, 119, 97, 110, 116, 32, 102, 111, 114, 32, 110, 111, 116, 104, 105, 110, 103, 63]).bind fun r17 =>
  bif (r17 == ([91, 220, 193, 70, 191, 96, 117, 78, 106, 4, 36, 38, 8, 149, 117, 199, 90, 0, 63, 8, 157, 39, 57, 131, 157, 236, 88, 185, 100, 236, 56, 67] : List UInt8)) then
    bif ((r10.2.2).isNone) then
      some (((r10.1.drop 0).take r10.2.1) == ([85, 172, 4, 110, 86, 227, 8, 159, 236, 22, 145, 194, 37, 68, 182, 5] : List UInt8))
    else
      some false
  else
    some false
def mpadded_l1_E (a1 : UInt8) (l5_2 : List UInt8) (i18_2 : Int) : S := ⟨[(1, .c (.s (.u8 a1))), (5, .c (.wh 0)), (17, .c (.s (.k .i64 64))), (18, .c (.s (.k .i64 i18_2)))], [], [⟨.row, 5, 1, 64, .b l5_2⟩]⟩
def mpadded_l1_P (n : Nat) (a1 : UInt8) (r : List UInt8) (fu : Nat) : S → Prop := fun s => ∃ (l5_2 : List UInt8), ∃ (i18_2 : Int), s = mpadded_l1_E a1 l5_2 i18_2 ∧ mpadded_l1 n a1 fu l5_2 i18_2 = some r
theorem mpadded_l1_M {n : Nat} {a1 : UInt8} {l5_2 : List UInt8} {i18_2 : Int} {r : List UInt8} {fu : Nat} (h : mpadded_l1 n a1 fu l5_2 i18_2 = some r) : mpadded_l1_P n a1 r fu (mpadded_l1_E a1 l5_2 i18_2) := ⟨l5_2, i18_2, rfl, h⟩
def mpadded_j1_E (a1 : UInt8) (l0_2 : List UInt8) : S := ⟨[(0, .c (.wh 0)), (1, .c (.s (.u8 a1)))], [], [⟨(.ro false), 5, 1, l0_2.length, .b l0_2⟩]⟩
def mpadded_j1_P (n : Nat) (a1 : UInt8) (r : List UInt8) : S → Prop := fun s => ∃ (l0_2 : List UInt8), s = mpadded_j1_E a1 l0_2 ∧ mpadded_j1 n a1 l0_2 = some r
theorem mpadded_j1_M {n : Nat} {a1 : UInt8} {l0_2 : List UInt8} {r : List UInt8} (h : mpadded_j1 n a1 l0_2 = some r) : mpadded_j1_P n a1 r (mpadded_j1_E a1 l0_2) := ⟨l0_2, rfl, h⟩
def mpadded_R (r : List UInt8) : S := ⟨[(4, .c (.wh 0))], [], [⟨.row, 5, 1, 64, .b r⟩]⟩
def mpadded_ct (n : Nat) (r : List UInt8) : Ct := fun args H => match args with
  | [x0, x1] => (match aB H x0 with | some l0 => (match aU8 x1 with | some l1 => some ([mpadded n l0 l1 = some r], shA H.length (.c (.wh 0)), shH H.length [⟨.row, 5, 1, 64, .b r⟩]) | none => none) | none => none)
  | _ => none
theorem mpadded_ok (n : Nat) (r : List UInt8) : FnOk Tryd.prog GK 21 (mpadded_ct n r) := by
  refine ⟨fun args H g av objs hF hg ρ w vals hG hp ha => ?_, _, Tryd.func21, by kernel_rfl, by kernel_rfl⟩
  obtain ⟨x0, x1, rfl⟩ : ∃ x0 x1, args = [x0, x1] := by
    unfold mpadded_ct at hF; split at hF
    · exact ⟨_, _, rfl⟩
    · cases hF
  cases e0 : aB H x0 with
  | none => simp only [mpadded_ct, e0, reduceCtorEq] at hF
  | some l0 =>
  cases e1 : aU8 x1 with
  | none => simp only [mpadded_ct, e0, e1, reduceCtorEq] at hF
  | some l1 =>
  simp only [mpadded_ct, e0, e1, Option.some.injEq, Prod.mk.injEq] at hF
  obtain ⟨rfl, rfl, rfl⟩ := hF
  obtain ⟨v0, vals, rfl, k0, ha⟩ := F2.inv ha
  obtain ⟨v1, vals, rfl, k1, ha⟩ := F2.inv ha
  obtain rfl := F2.inv0 ha
  have hI : ∀ w', Kp (noB (fun _ => undef)) w w' → GK w' := fun _ hk => GK.keep hk.below hG
  have h : mpadded n l0 l1 = some r := hg
  obtain ⟨p0, s0, o0⟩ := aB_ok hp e0 (k0) 5
  have s1 := aU8_ok e1 (k1)
  have hR0 := rel0 (gv := (fun _ => undef)) (n := 30) (w := w) (args := [.c (.wh 0), .c (.s (.u8 l1))]) (H := [⟨.ro false, 5, 1, l0.length, .b l0⟩]) (gl := []) (hpL (ps := [p0]) (F2.cons o0 F2.nil)) (allRo_ok rfl) (F2.cons s0 (F2.cons s1 F2.nil)) GlR.nil (by simp)
  clear ha hp hg k0 k1 e0 e1
  refine calls_W Tryd.func21 rfl rfl hR0 (Q := fun e s => (e = .ret ∨ e = .normal) ∧ s = mpadded_R r) ?_ ?_
  · clear hR0
    unfold mpadded at h
    have hT := tabO_ma
    refine W_seq ?_
    refine W_reg hT ftL_nil [] [] [0, 1] [0] (s' := ⟨[(0, .c (.wh 0)), (1, .c (.s (.u8 l1)))], [], [⟨(.ro false), 5, 1, l0.length, .b l0⟩]⟩) (by kernel_rfl) allP_nil ?_
    refine W_join (mpadded_j1_P n l1 r) ?_ ?_
    · rintro _ ⟨l0_2, rfl, h⟩
      unfold mpadded_j1 at h
      refine W_seq ?_
      obtain ⟨g1, h⟩ := gd_some h
      obtain ⟨g2, h⟩ := gd_some h
      obtain ⟨g3, h⟩ := gd_some h
      refine W_reg hT ftL_nil [] [] [0, 1, 5] [0, 1] (s' := ⟨[(0, .c (.wh 0)), (1, .c (.s (.u8 l1))), (5, .c (.wh 1))], [], [⟨(.ro false), 5, 1, l0_2.length, .b l0_2⟩, ⟨.row, 5, 1, 64, .b (List.replicate 64 0)⟩]⟩) (by kernel_rfl) (allP_cons.2 ⟨g1, (allP_cons.2 ⟨g2, (allP_cons.2 ⟨g3, allP_nil⟩)⟩)⟩) ?_
      refine W_seq ?_
      refine W_reg hT ftL_nil [] [] [1, 5] [1] (s' := ⟨[(1, .c (.s (.u8 l1))), (5, .c (.wh 0))], [], [⟨.row, 5, 1, 64, .b (((List.replicate 64 0).take 0 ++ l0_2.take (min l0_2.length 64)) ++ (List.replicate 64 0).drop (0 + (min l0_2.length 64)))⟩]⟩) (by kernel_rfl) allP_nil ?_
      refine W_seq ?_
      refine W_seq ?_
      refine W_reg hT ftL_nil [] [] [1, 5, 17, 18] [0] (s' := ⟨[(1, .c (.s (.u8 l1))), (5, .c (.wh 0)), (17, .c (.s (.k .i64 64))), (18, .c (.s (.k .i64 0)))], [], [⟨.row, 5, 1, 64, .b (((List.replicate 64 0).take 0 ++ l0_2.take (min l0_2.length 64)) ++ (List.replicate 64 0).drop (0 + (min l0_2.length 64)))⟩]⟩) (by kernel_rfl) allP_nil ?_
      refine W_block ?_
      refine W_co [] [1, 5, 17, 18] [0] (s' := (mpadded_l1_E l1 (((List.replicate 64 0).take 0 ++ l0_2.take (min l0_2.length 64)) ++ (List.replicate 64 0).drop (0 + (min l0_2.length 64))) 0)) (by kernel_rfl) (W_lp ((mpadded_l1_P n l1 r)) n (mpadded_l1_M h) ?_)
      rintro fu_l1 _ ⟨l5_2, i18_2, rfl, h⟩
      cases fu_l1 with
      | zero => cases h
      | succ fu_l1 =>
        refine ⟨fu_l1, rfl, ?_⟩
        rw [mpadded_l1] at h
        refine W_seq ?_
        refine W_reg hT ftL_nil [] [] [1, 5, 17, 18, 19] [0] (s' := ⟨[(1, .c (.s (.u8 l1))), (5, .c (.wh 0)), (17, .c (.s (.k .i64 64))), (18, .c (.s (.k .i64 i18_2))), (19, .c (.s (.b (decide (i18_2 < (64 : Int))))))], [], [⟨.row, 5, 1, 64, .b l5_2⟩]⟩) (by kernel_rfl) allP_nil ?_
        refine W_seq ?_
        refine W_cond (b := (decide (i18_2 < (64 : Int)))) (by kernel_rfl) (fun g9 => ?_) (fun g9 => ?_)
        · replace h := bif_t h g9
          refine W_co [] [1, 5, 17, 18] [0] (s' := ⟨[(1, .c (.s (.u8 l1))), (5, .c (.wh 0)), (17, .c (.s (.k .i64 64))), (18, .c (.s (.k .i64 i18_2)))], [], [⟨.row, 5, 1, 64, .b l5_2⟩]⟩) (by kernel_rfl) (W_skip ?_)
          refine W_seq ?_
          refine W_block ?_
          refine W_seq ?_
          refine W_reg hT ftL_nil [] [] [1, 5, 6, 17, 18] [0] (s' := ⟨[(1, .c (.s (.u8 l1))), (5, .c (.wh 0)), (6, .c (.s (.k .i64 i18_2))), (17, .c (.s (.k .i64 64))), (18, .c (.s (.k .i64 i18_2)))], [], [⟨.row, 5, 1, 64, .b l5_2⟩]⟩) (by kernel_rfl) allP_nil ?_
          obtain ⟨g4, h⟩ := gd_some h
          obtain ⟨g5, h⟩ := gd_some h
          obtain ⟨g6, h⟩ := gd_some h
          obtain ⟨g7, h⟩ := gd_some h
          refine W_reg hT ftL_nil [] [] [1, 5, 17, 18] [0] (s' := ⟨[(1, .c (.s (.u8 l1))), (5, .c (.wh 0)), (17, .c (.s (.k .i64 64))), (18, .c (.s (.k .i64 i18_2)))], [], [⟨.row, 5, 1, 64, .b (l5_2.set i18_2.toNat ((l5_2.getD i18_2.toNat 0) ^^^ l1))⟩]⟩) (by kernel_rfl) (allP_cons.2 ⟨g4, (allP_cons.2 ⟨g5, (allP_cons.2 ⟨g6, (allP_cons.2 ⟨g7, allP_nil⟩)⟩)⟩)⟩) ?_
          obtain ⟨g8, h⟩ := gd_some h
          refine W_reg hT ftL_nil [] [] [1, 5, 17, 18] [0] (s' := (mpadded_l1_E l1 (l5_2.set i18_2.toNat ((l5_2.getD i18_2.toNat 0) ^^^ l1)) (i18_2 + 1))) (by kernel_rfl) (allP_cons.2 ⟨g8, allP_nil⟩) ?_
          exact mpadded_l1_M h
        · replace h := bif_f h g9
          refine W_co [] [5] [0] (s' := ⟨[(5, .c (.wh 0))], [], [⟨.row, 5, 1, 64, .b l5_2⟩]⟩) (by kernel_rfl) (W_exit ?_)
          refine W_seq ?_
          refine W_reg hT ftL_nil [] [] [4] [0] (s' := ⟨[(4, .c (.wh 0))], [], [⟨.row, 5, 1, 64, .b l5_2⟩]⟩) (by kernel_rfl) allP_nil ?_
          refine W_co [] [4] [0] (s' := (mpadded_R l5_2)) (by kernel_rfl) (W_ret ?_)
          exact ⟨.inl rfl, by cases h; rfl⟩
    · refine W_seq ?_
      refine W_reg hT ftL_nil [] [] [0, 1, 9] [0] (s' := ⟨[(0, .c (.wh 0)), (1, .c (.s (.u8 l1))), (9, .c (.s (.b (decide ((64 : Int) < ((l0.length : Nat) : Int))))))], [], [⟨(.ro false), 5, 1, l0.length, .b l0⟩]⟩) (by kernel_rfl) allP_nil ?_
      refine W_cond (b := (decide ((64 : Int) < ((l0.length : Nat) : Int)))) (by kernel_rfl) (fun g11 => ?_) (fun g11 => ?_)
      · replace h := bif_t h g11
        obtain ⟨g10, h⟩ := gd_some h
        refine W_reg hT (ftL_cons (k := 1) (f := 19) (F := sum_ct) sum_h hI ftL_nil) [] [.vw 0 false] [0, 1] [2] (s' := (mpadded_j1_E l1 (digest consts begin8 l0))) (by kernel_rfl) (allP_cons.2 ⟨g10, allP_nil⟩) ?_
        exact mpadded_j1_M h
      · replace h := bif_f h g11
        refine W_co [] [0, 1] [0] (s' := (mpadded_j1_E l1 l0)) (by kernel_rfl) (W_skip ?_)
        exact mpadded_j1_M h
  · rintro e s' ⟨he, rfl⟩
    refine ⟨he, fun a' w' hr => ?_⟩
    exact retS_ok tabO_ma hr (rs := [.tmp 4]) rfl (objs := [0]) (by kernel_rfl)
def mMark_R (r : List UInt8) : S := ⟨[(4, .c (.wh 0))], [], [⟨.row, 5, 1, r.length, .b r⟩]⟩
def mMark_ct (n : Nat) (r : List UInt8) : Ct := fun args H => match args with
  | [x0, x1] => (match aB H x0 with | some l0 => (match aB H x1 with | some l1 => some ([mMark n l0 l1 = some r], shA H.length (.c (.wh 0)), shH H.length [⟨.row, 5, 1, r.length, .b r⟩]) | none => none) | none => none)
  | _ => none
theorem mMark_ok (n : Nat) (r : List UInt8) : FnOk Tryd.prog GK 11 (mMark_ct n r) := by
  refine ⟨fun args H g av objs hF hg ρ w vals hG hp ha => ?_, _, Tryd.func11, by kernel_rfl, by kernel_rfl⟩
  obtain ⟨x0, x1, rfl⟩ : ∃ x0 x1, args = [x0, x1] := by
    unfold mMark_ct at hF; split at hF
    · exact ⟨_, _, rfl⟩
    · cases hF
  cases e0 : aB H x0 with
  | none => simp only [mMark_ct, e0, reduceCtorEq] at hF
  | some l0 =>
  cases e1 : aB H x1 with
  | none => simp only [mMark_ct, e0, e1, reduceCtorEq] at hF
  | some l1 =>
  simp only [mMark_ct, e0, e1, Option.some.injEq, Prod.mk.injEq] at hF
  obtain ⟨rfl, rfl, rfl⟩ := hF
  obtain ⟨v0, vals, rfl, k0, ha⟩ := F2.inv ha
  obtain ⟨v1, vals, rfl, k1, ha⟩ := F2.inv ha
  obtain rfl := F2.inv0 ha
  have hI : ∀ w', Kp (noB (fun _ => undef)) w w' → GK w' := fun _ hk => GK.keep hk.below hG
  have h : mMark n l0 l1 = some r := hg
  obtain ⟨p0, s0, o0⟩ := aB_ok hp e0 (k0) 5
  obtain ⟨p1, s1, o1⟩ := aB_ok hp e1 (k1) 5
  have hR0 := rel0 (gv := (fun _ => undef)) (n := 18) (w := w) (args := [.c (.wh 0), .c (.wh 1)]) (H := [⟨.ro false, 5, 1, l0.length, .b l0⟩, ⟨.ro false, 5, 1, l1.length, .b l1⟩]) (gl := []) (hpL (ps := [p0, p1]) (F2.cons o0 (F2.cons o1 F2.nil))) (allRo_ok rfl) (F2.cons s0 (F2.cons s1 F2.nil)) GlR.nil (by simp)
  clear ha hp hg k0 k1 e0 e1
  refine calls_W Tryd.func11 rfl rfl hR0 (Q := fun e s => (e = .ret ∨ e = .normal) ∧ s = mMark_R r) ?_ ?_
  · clear hR0
    unfold mMark at h
    have hT := tabO_ma
    refine W_seq ?_
    refine W_reg hT ftL_nil [] [] [0, 1] [0, 1] (s' := ⟨[(0, .c (.wh 0)), (1, .c (.wh 1))], [], [⟨(.ro false), 5, 1, l0.length, .b l0⟩, ⟨(.ro false), 5, 1, l1.length, .b l1⟩]⟩) (by kernel_rfl) allP_nil ?_
    refine W_seq ?_
    obtain ⟨r7, g1, h⟩ := bind_some' h
    obtain ⟨g2, h⟩ := gd_some h
    obtain ⟨g3, h⟩ := gd_some h
    obtain ⟨g4, h⟩ := gd_some h
    refine W_reg hT (ftL_cons (k := 1) (f := 21) (F := (mpadded_ct n r7)) (mpadded_ok n r7) hI (ftL_cons (k := 4) (f := 20) (F := cat_ct) cat_h (fun _ _ => True.intro) (ftL_cons (k := 5) (f := 19) (F := sum_ct) sum_h hI ftL_nil))) [] [] [0, 5] [0, 5] (s' := ⟨[(0, .c (.wh 0)), (5, .c (.wh 1))], [], [⟨(.ro false), 5, 1, l0.length, .b l0⟩, ⟨.row, 5, 1, (digest consts begin8 ((([r7, l1] : List (List UInt8))).flatten)).length, .b (digest consts begin8 ((([r7, l1] : List (List UInt8))).flatten))⟩]⟩) (by kernel_rfl) (allP_cons.2 ⟨g1, (allP_cons.2 ⟨g2, (allP_cons.2 ⟨g3, (allP_cons.2 ⟨g4, allP_nil⟩)⟩)⟩)⟩) ?_
    refine W_seq ?_
    obtain ⟨r13, g5, h⟩ := bind_some' h
    obtain ⟨g6, h⟩ := gd_some h
    obtain ⟨g7, h⟩ := gd_some h
    obtain ⟨g8, h⟩ := gd_some h
    refine W_reg hT (ftL_cons (k := 1) (f := 21) (F := (mpadded_ct n r13)) (mpadded_ok n r13) hI (ftL_cons (k := 4) (f := 20) (F := cat_ct) cat_h (fun _ _ => True.intro) (ftL_cons (k := 5) (f := 19) (F := sum_ct) sum_h hI ftL_nil))) [] [] [4] [5] (s' := ⟨[(4, .c (.wh 0))], [], [⟨.row, 5, 1, (digest consts begin8 ((([r13, (digest consts begin8 ((([r7, l1] : List (List UInt8))).flatten))] : List (List UInt8))).flatten)).length, .b (digest consts begin8 ((([r13, (digest consts begin8 ((([r7, l1] : List (List UInt8))).flatten))] : List (List UInt8))).flatten))⟩]⟩) (by kernel_rfl) (allP_cons.2 ⟨g5, (allP_cons.2 ⟨g6, (allP_cons.2 ⟨g7, (allP_cons.2 ⟨g8, allP_nil⟩)⟩)⟩)⟩) ?_
    refine W_co [] [4] [0] (s' := (mMark_R (digest consts begin8 ((([r13, (digest consts begin8 ((([r7, l1] : List (List UInt8))).flatten))] : List (List UInt8))).flatten)))) (by kernel_rfl) (W_ret ?_)
    exact ⟨.inl rfl, by cases h; rfl⟩
  · rintro e s' ⟨he, rfl⟩
    refine ⟨he, fun a' w' hr => ?_⟩
    exact retS_ok tabO_ma hr (rs := [.tmp 4]) rfl (objs := [0]) (by kernel_rfl)
def mmay_R (r : Option Int) : S := ⟨[(2, .c (.s (.er 38 .i64 r)))], [], []⟩
def mmay_ct (n : Nat) (r : Option Int) : Ct := fun args H => match args with
  | [x0] => (match aI x0 with | some l0 => some ([mmay n l0 = some r], shA H.length (.c (.s (.er 38 .i64 r))), shH H.length []) | none => none)
  | _ => none
theorem mmay_ok (n : Nat) (r : Option Int) : FnOk Tryd.prog Tr 25 (mmay_ct n r) := by
  refine ⟨fun args H g av objs hF hg ρ w vals hG hp ha => ?_, _, Tryd.func25, by kernel_rfl, by kernel_rfl⟩
  obtain ⟨x0, rfl⟩ : ∃ x0, args = [x0] := by
    unfold mmay_ct at hF; split at hF
    · exact ⟨_, rfl⟩
    · cases hF
  cases e0 : aI x0 with
  | none => simp only [mmay_ct, e0, reduceCtorEq] at hF
  | some l0 =>
  simp only [mmay_ct, e0, Option.some.injEq, Prod.mk.injEq] at hF
  obtain ⟨rfl, rfl, rfl⟩ := hF
  obtain ⟨v0, vals, rfl, k0, ha⟩ := F2.inv ha
  obtain rfl := F2.inv0 ha
  have hI : ∀ w', Kp (noB (fun _ => undef)) w w' → Tr w' := fun _ hk => Tr.keep hk.below hG
  have h : mmay n l0 = some r := hg
  have s0 := aI_ok e0 (k0)
  have hR0 := rel0 (gv := (fun _ => undef)) (n := 11) (w := w) (args := [.c (.s (.k .i64 l0))]) (H := []) (gl := []) (hpL (ps := []) F2.nil) (allRo_ok rfl) (F2.cons s0 F2.nil) GlR.nil (by simp)
  clear ha hp hg k0 e0
  refine calls_W Tryd.func25 rfl rfl hR0 (Q := fun e s => (e = .ret ∨ e = .normal) ∧ s = mmay_R r) ?_ ?_
  · clear hR0
    unfold mmay at h
    have hT := tabO_ma
    refine W_seq ?_
    refine W_reg hT ftL_nil [] [] [0] [] (s' := ⟨[(0, .c (.s (.k .i64 l0)))], [], []⟩) (by kernel_rfl) allP_nil ?_
    refine W_seq ?_
    refine W_block ?_
    refine W_seq ?_
    refine W_reg hT ftL_nil [] [] [0, 3] [] (s' := ⟨[(0, .c (.s (.k .i64 l0))), (3, .c (.s (.b (decide (l0 < (1 : Int))))))], [], []⟩) (by kernel_rfl) allP_nil ?_
    refine W_cond (b := (decide (l0 < (1 : Int)))) (by kernel_rfl) (fun g2 => ?_) (fun g2 => ?_)
    · replace h := bif_t h g2
      refine W_seq ?_
      refine W_reg hT ftL_nil [] [] [2] [] (s' := ⟨[(2, .c (.s (.er 38 .i64 (some 1))))], [], []⟩) (by kernel_rfl) allP_nil ?_
      refine W_co [] [2] [] (s' := (mmay_R (some 1))) (by kernel_rfl) (W_ret ?_)
      exact ⟨.inl rfl, by cases h; rfl⟩
    · replace h := bif_f h g2
      refine W_seq ?_
      refine W_reg hT ftL_nil [] [] [7] [] (s' := ⟨[(7, .c (.s (.b (decide ((10000 : Int) < l0)))))], [], []⟩) (by kernel_rfl) allP_nil ?_
      refine W_cond (b := (decide ((10000 : Int) < l0))) (by kernel_rfl) (fun g1 => ?_) (fun g1 => ?_)
      · replace h := bif_t h g1
        refine W_seq ?_
        refine W_reg hT ftL_nil [] [] [2] [] (s' := ⟨[(2, .c (.s (.er 38 .i64 (some 4))))], [], []⟩) (by kernel_rfl) allP_nil ?_
        refine W_co [] [2] [] (s' := (mmay_R (some 4))) (by kernel_rfl) (W_ret ?_)
        exact ⟨.inl rfl, by cases h; rfl⟩
      · replace h := bif_f h g1
        refine W_co [] [] [] (s' := ⟨[], [], []⟩) (by kernel_rfl) (W_skip ?_)
        refine W_seq ?_
        refine W_reg hT ftL_nil [] [] [2] [] (s' := ⟨[(2, .c (.s (.v .nilIface)))], [], []⟩) (by kernel_rfl) allP_nil ?_
        refine W_co [.er 2 38 .i64] [2] [] (s' := (mmay_R none)) (by kernel_rfl) (W_ret ?_)
        exact ⟨.inl rfl, by cases h; rfl⟩
  · rintro e s' ⟨he, rfl⟩
    refine ⟨he, fun a' w' hr => ?_⟩
    exact retS_ok tabO_ma hr (rs := [.tmp 2]) rfl (objs := []) (by kernel_rfl)
def mDerive_l3_E (a0 : List UInt8) (a1 : List UInt8) (a2 : Int) (a3 : Int) (l11_1 : List UInt8) (i12_1 : Int) (r48_2 : List UInt8) (i53_5 : Int) (r57_8 : List UInt8) (l14_23 : List UInt8) (i60_17 : Int) : S := ⟨[(0, .c (.wh 0)), (1, .c (.wh 1)), (2, .c (.s (.k .i64 a2))), (3, .c (.s (.k .i64 a3))), (11, .c (.wh 2)), (12, .c (.s (.k .i64 i12_1))), (13, .c (.wh 3)), (14, .c (.wh 4)), (52, .c (.s (.k .i64 (a2 - 1)))), (53, .c (.s (.k .i64 i53_5))), (59, .c (.s (.k .i64 (((r48_2).length : Nat) : Int)))), (60, .c (.s (.k .i64 i60_17)))], [], [⟨(.ro false), 5, 1, a0.length, .b a0⟩, ⟨(.ro false), 5, 1, a1.length, .b a1⟩, ⟨.row, 5, 1, l11_1.length, .b l11_1⟩, ⟨.row, 5, 1, r57_8.length, .b r57_8⟩, ⟨.row, 5, 1, (r48_2).length, .b l14_23⟩]⟩
def mDerive_l3_P (n : Nat) (a0 : List UInt8) (a1 : List UInt8) (a2 : Int) (a3 : Int) (l11_1 : List UInt8) (i12_1 : Int) (r48_2 : List UInt8) (i53_5 : Int) (r57_8 : List UInt8) (k_l2 : (List UInt8) → (List UInt8) → Int → Option (List UInt8 × Nat × Option Int)) (r : List UInt8 × Nat × Option Int) (fu : Nat) : S → Prop := fun s => ∃ (l14_23 : List UInt8), ∃ (i60_17 : Int), s = mDerive_l3_E a0 a1 a2 a3 l11_1 i12_1 r48_2 i53_5 r57_8 l14_23 i60_17 ∧ mDerive_l3 n a0 a1 a2 a3 l11_1 i12_1 r48_2 i53_5 r57_8 k_l2 fu l14_23 i60_17 = some r
theorem mDerive_l3_M {n : Nat} {a0 : List UInt8} {a1 : List UInt8} {a2 : Int} {a3 : Int} {l11_1 : List UInt8} {i12_1 : Int} {r48_2 : List UInt8} {i53_5 : Int} {r57_8 : List UInt8} {k_l2 : (List UInt8) → (List UInt8) → Int → Option (List UInt8 × Nat × Option Int)} {l14_23 : List UInt8} {i60_17 : Int} {r : List UInt8 × Nat × Option Int} {fu : Nat} (h : mDerive_l3 n a0 a1 a2 a3 l11_1 i12_1 r48_2 i53_5 r57_8 k_l2 fu l14_23 i60_17 = some r) : mDerive_l3_P n a0 a1 a2 a3 l11_1 i12_1 r48_2 i53_5 r57_8 k_l2 r fu (mDerive_l3_E a0 a1 a2 a3 l11_1 i12_1 r48_2 i53_5 r57_8 l14_23 i60_17) := ⟨l14_23, i60_17, rfl, h⟩
def mDerive_l2_E (a0 : List UInt8) (a1 : List UInt8) (a2 : Int) (a3 : Int) (l11_1 : List UInt8) (i12_1 : Int) (r48_2 : List UInt8) (l13_5 : List UInt8) (l14_21 : List UInt8) (i53_5 : Int) : S := ⟨[(0, .c (.wh 0)), (1, .c (.wh 1)), (2, .c (.s (.k .i64 a2))), (3, .c (.s (.k .i64 a3))), (11, .c (.wh 2)), (12, .c (.s (.k .i64 i12_1))), (13, .c (.wh 3)), (14, .c (.wh 4)), (52, .c (.s (.k .i64 (a2 - 1)))), (53, .c (.s (.k .i64 i53_5)))], [], [⟨(.ro false), 5, 1, a0.length, .b a0⟩, ⟨(.ro false), 5, 1, a1.length, .b a1⟩, ⟨.row, 5, 1, l11_1.length, .b l11_1⟩, ⟨.row, 5, 1, l13_5.length, .b l13_5⟩, ⟨.row, 5, 1, (r48_2).length, .b l14_21⟩]⟩
def mDerive_l2_P (n : Nat) (a0 : List UInt8) (a1 : List UInt8) (a2 : Int) (a3 : Int) (l11_1 : List UInt8) (i12_1 : Int) (r48_2 : List UInt8) (k_l1 : (List UInt8) → Int → Option (List UInt8 × Nat × Option Int)) (r : List UInt8 × Nat × Option Int) (fu : Nat) : S → Prop := fun s => ∃ (l13_5 : List UInt8), ∃ (l14_21 : List UInt8), ∃ (i53_5 : Int), s = mDerive_l2_E a0 a1 a2 a3 l11_1 i12_1 r48_2 l13_5 l14_21 i53_5 ∧ mDerive_l2 n a0 a1 a2 a3 l11_1 i12_1 r48_2 k_l1 fu l13_5 l14_21 i53_5 = some r
theorem mDerive_l2_M {n : Nat} {a0 : List UInt8} {a1 : List UInt8} {a2 : Int} {a3 : Int} {l11_1 : List UInt8} {i12_1 : Int} {r48_2 : List UInt8} {k_l1 : (List UInt8) → Int → Option (List UInt8 × Nat × Option Int)} {l13_5 : List UInt8} {l14_21 : List UInt8} {i53_5 : Int} {r : List UInt8 × Nat × Option Int} {fu : Nat} (h : mDerive_l2 n a0 a1 a2 a3 l11_1 i12_1 r48_2 k_l1 fu l13_5 l14_21 i53_5 = some r) : mDerive_l2_P n a0 a1 a2 a3 l11_1 i12_1 r48_2 k_l1 r fu (mDerive_l2_E a0 a1 a2 a3 l11_1 i12_1 r48_2 l13_5 l14_21 i53_5) := ⟨l13_5, l14_21, i53_5, rfl, h⟩
def mDerive_l1_E (a0 : List UInt8) (a1 : List UInt8) (a2 : Int) (a3 : Int) (l11_1 : List UInt8) (i12_1 : Int) : S := ⟨[(0, .c (.wh 0)), (1, .c (.wh 1)), (2, .c (.s (.k .i64 a2))), (3, .c (.s (.k .i64 a3))), (11, .c (.wh 2)), (12, .c (.s (.k .i64 i12_1)))], [], [⟨(.ro false), 5, 1, a0.length, .b a0⟩, ⟨(.ro false), 5, 1, a1.length, .b a1⟩, ⟨.row, 5, 1, l11_1.length, .b l11_1⟩]⟩
def mDerive_l1_P (n : Nat) (a0 : List UInt8) (a1 : List UInt8) (a2 : Int) (a3 : Int) (r : List UInt8 × Nat × Option Int) (fu : Nat) : S → Prop := fun s => ∃ (l11_1 : List UInt8), ∃ (i12_1 : Int), s = mDerive_l1_E a0 a1 a2 a3 l11_1 i12_1 ∧ mDerive_l1 n a0 a1 a2 a3 fu l11_1 i12_1 = some r
theorem mDerive_l1_M {n : Nat} {a0 : List UInt8} {a1 : List UInt8} {a2 : Int} {a3 : Int} {l11_1 : List UInt8} {i12_1 : Int} {r : List UInt8 × Nat × Option Int} {fu : Nat} (h : mDerive_l1 n a0 a1 a2 a3 fu l11_1 i12_1 = some r) : mDerive_l1_P n a0 a1 a2 a3 r fu (mDerive_l1_E a0 a1 a2 a3 l11_1 i12_1) := ⟨l11_1, i12_1, rfl, h⟩
def mDerive_R (r : List UInt8 × Nat × Option Int) : S := ⟨[(8, .c (.sl 0 0 r.2.1)), (9, .c (.s (.er 38 .i64 r.2.2)))], [], [⟨.row, 5, 1, r.1.length, .b r.1⟩]⟩
def mDerive_ct (n : Nat) (r : List UInt8 × Nat × Option Int) : Ct := fun args H => match args with
  | [x0, x1, x2, x3] => (match aB H x0 with | some l0 => (match aB H x1 with | some l1 => (match aI x2 with | some l2 => (match aI x3 with | some l3 => some ([mDerive n l0 l1 l2 l3 = some r], shA H.length (.t [.c (.sl 0 0 r.2.1), .c (.s (.er 38 .i64 r.2.2))]), shH H.length [⟨.row, 5, 1, r.1.length, .b r.1⟩]) | none => none) | none => none) | none => none) | none => none)
  | _ => none
theorem mDerive_ok (n : Nat) (r : List UInt8 × Nat × Option Int) : FnOk Tryd.prog GK 14 (mDerive_ct n r) := by
  refine ⟨fun args H g av objs hF hg ρ w vals hG hp ha => ?_, _, Tryd.func14, by kernel_rfl, by kernel_rfl⟩
  obtain ⟨x0, x1, x2, x3, rfl⟩ : ∃ x0 x1 x2 x3, args = [x0, x1, x2, x3] := by
    unfold mDerive_ct at hF; split at hF
    · exact ⟨_, _, _, _, rfl⟩
    · cases hF
  cases e0 : aB H x0 with
  | none => simp only [mDerive_ct, e0, reduceCtorEq] at hF
  | some l0 =>
  cases e1 : aB H x1 with
  | none => simp only [mDerive_ct, e0, e1, reduceCtorEq] at hF
  | some l1 =>
  cases e2 : aI x2 with
  | none => simp only [mDerive_ct, e0, e1, e2, reduceCtorEq] at hF
  | some l2 =>
  cases e3 : aI x3 with
  | none => simp only [mDerive_ct, e0, e1, e2, e3, reduceCtorEq] at hF
  | some l3 =>
  simp only [mDerive_ct, e0, e1, e2, e3, Option.some.injEq, Prod.mk.injEq] at hF
  obtain ⟨rfl, rfl, rfl⟩ := hF
  obtain ⟨v0, vals, rfl, k0, ha⟩ := F2.inv ha
  obtain ⟨v1, vals, rfl, k1, ha⟩ := F2.inv ha
  obtain ⟨v2, vals, rfl, k2, ha⟩ := F2.inv ha
  obtain ⟨v3, vals, rfl, k3, ha⟩ := F2.inv ha
  obtain rfl := F2.inv0 ha
  have hI : ∀ w', Kp (noB (fun _ => undef)) w w' → GK w' := fun _ hk => GK.keep hk.below hG
  have h : mDerive n l0 l1 l2 l3 = some r := hg
  obtain ⟨p0, s0, o0⟩ := aB_ok hp e0 (k0) 5
  obtain ⟨p1, s1, o1⟩ := aB_ok hp e1 (k1) 5
  have s2 := aI_ok e2 (k2)
  have s3 := aI_ok e3 (k3)
  have hR0 := rel0 (gv := (fun _ => undef)) (n := 82) (w := w) (args := [.c (.wh 0), .c (.wh 1), .c (.s (.k .i64 l2)), .c (.s (.k .i64 l3))]) (H := [⟨.ro false, 5, 1, l0.length, .b l0⟩, ⟨.ro false, 5, 1, l1.length, .b l1⟩]) (gl := []) (hpL (ps := [p0, p1]) (F2.cons o0 (F2.cons o1 F2.nil))) (allRo_ok rfl) (F2.cons s0 (F2.cons s1 (F2.cons s2 (F2.cons s3 F2.nil)))) GlR.nil (by simp)
  clear ha hp hg k0 k1 k2 k3 e0 e1 e2 e3
  refine calls_W Tryd.func14 rfl rfl hR0 (Q := fun e s => (e = .ret ∨ e = .normal) ∧ s = mDerive_R r) ?_ ?_
  · clear hR0
    unfold mDerive at h
    have hT := tabO_ma
    refine W_seq ?_
    refine W_reg hT ftL_nil [] [] [0, 1, 2, 3] [0, 1] (s' := ⟨[(0, .c (.wh 0)), (1, .c (.wh 1)), (2, .c (.s (.k .i64 l2))), (3, .c (.s (.k .i64 l3)))], [], [⟨(.ro false), 5, 1, l0.length, .b l0⟩, ⟨(.ro false), 5, 1, l1.length, .b l1⟩]⟩) (by kernel_rfl) allP_nil ?_
    refine W_seq ?_
    refine W_seq ?_
    rcases Bool.eq_false_or_eq_true (decide (l3 < (0 : Int))) with g1 | g1
    · replace h := bif_t h g1
      refine W_reg hT ftL_nil [(2, true)] [] [0, 1, 2, 3, 21] [0, 1] (s' := ⟨[(0, .c (.wh 0)), (1, .c (.wh 1)), (2, .c (.s (.k .i64 l2))), (3, .c (.s (.k .i64 l3))), (21, .c (.s (.b true)))], [], [⟨(.ro false), 5, 1, l0.length, .b l0⟩, ⟨(.ro false), 5, 1, l1.length, .b l1⟩]⟩) (by kernel_rfl) (allP_cons.2 ⟨g1, allP_nil⟩) ?_
      refine W_cond (b := true) (by kernel_rfl) (fun _ => ?_) (fun hb => by cases hb)
      refine W_seq ?_
      refine W_reg hT ftL_nil [] [] [8, 9] [] (s' := ⟨[(8, .c (.nils)), (9, .c (.s (.er 38 .i64 (some 1))))], [], []⟩) (by kernel_rfl) allP_nil ?_
      refine W_co [.nil 8 5 1 (.b []), .sb 8] [8, 9] [0] (s' := (mDerive_R ([], 0, (some 1)))) (by kernel_rfl) (W_ret ?_)
      exact ⟨.inl rfl, by cases h; rfl⟩
    · replace h := bif_f h g1
      refine W_reg hT ftL_nil [(2, false)] [] [0, 1, 2, 3, 21] [0, 1] (s' := ⟨[(0, .c (.wh 0)), (1, .c (.wh 1)), (2, .c (.s (.k .i64 l2))), (3, .c (.s (.k .i64 l3))), (21, .c (.s (.b (decide (l2 < (1 : Int))))))], [], [⟨(.ro false), 5, 1, l0.length, .b l0⟩, ⟨(.ro false), 5, 1, l1.length, .b l1⟩]⟩) (by kernel_rfl) (allP_cons.2 ⟨g1, allP_nil⟩) ?_
      refine W_cond (b := (decide (l2 < (1 : Int)))) (by kernel_rfl) (fun g29 => ?_) (fun g29 => ?_)
      · replace h := bif_t h g29
        refine W_seq ?_
        refine W_reg hT ftL_nil [] [] [8, 9] [] (s' := ⟨[(8, .c (.nils)), (9, .c (.s (.er 38 .i64 (some 1))))], [], []⟩) (by kernel_rfl) allP_nil ?_
        refine W_co [.nil 8 5 1 (.b []), .sb 8] [8, 9] [0] (s' := (mDerive_R ([], 0, (some 1)))) (by kernel_rfl) (W_ret ?_)
        exact ⟨.inl rfl, by cases h; rfl⟩
      · replace h := bif_f h g29
        refine W_co [] [0, 1, 2, 3] [0, 1] (s' := ⟨[(0, .c (.wh 0)), (1, .c (.wh 1)), (2, .c (.s (.k .i64 l2))), (3, .c (.s (.k .i64 l3)))], [], [⟨(.ro false), 5, 1, l0.length, .b l0⟩, ⟨(.ro false), 5, 1, l1.length, .b l1⟩]⟩) (by kernel_rfl) (W_skip ?_)
        refine W_seq ?_
        refine W_seq ?_
        obtain ⟨r24, g2, h⟩ := bind_some' h
        refine W_reg hT (ftL_cons (k := 1) (f := 25) (F := (mmay_ct n r24)) (mmay_ok n r24) (fun _ _ => True.intro) ftL_nil) [] [] [0, 1, 2, 3, 10] [0, 1] (s' := ⟨[(0, .c (.wh 0)), (1, .c (.wh 1)), (2, .c (.s (.k .i64 l2))), (3, .c (.s (.k .i64 l3))), (10, .c (.s (.er 38 .i64 r24)))], [], [⟨(.ro false), 5, 1, l0.length, .b l0⟩, ⟨(.ro false), 5, 1, l1.length, .b l1⟩]⟩) (by kernel_rfl) (allP_cons.2 ⟨g2, allP_nil⟩) ?_
        refine W_seq ?_
        rcases Bool.eq_false_or_eq_true (!((r24).isNone)) with g3 | g3
        · replace h := bif_t h g3
          refine W_reg hT ftL_nil [(2, true)] [] [0, 1, 2, 3, 30] [0, 1] (s' := ⟨[(0, .c (.wh 0)), (1, .c (.wh 1)), (2, .c (.s (.k .i64 l2))), (3, .c (.s (.k .i64 l3))), (30, .c (.s (.b true)))], [], [⟨(.ro false), 5, 1, l0.length, .b l0⟩, ⟨(.ro false), 5, 1, l1.length, .b l1⟩]⟩) (by kernel_rfl) (allP_cons.2 ⟨g3, allP_nil⟩) ?_
          refine W_cond (b := true) (by kernel_rfl) (fun _ => ?_) (fun hb => by cases hb)
          refine W_seq ?_
          refine W_reg hT ftL_nil [] [] [8, 9] [] (s' := ⟨[(8, .c (.nils)), (9, .c (.s (.er 38 .i64 (some 4))))], [], []⟩) (by kernel_rfl) allP_nil ?_
          refine W_co [.nil 8 5 1 (.b []), .sb 8] [8, 9] [0] (s' := (mDerive_R ([], 0, (some 4)))) (by kernel_rfl) (W_ret ?_)
          exact ⟨.inl rfl, by cases h; rfl⟩
        · replace h := bif_f h g3
          refine W_reg hT ftL_nil [(2, false)] [] [0, 1, 2, 3, 30] [0, 1] (s' := ⟨[(0, .c (.wh 0)), (1, .c (.wh 1)), (2, .c (.s (.k .i64 l2))), (3, .c (.s (.k .i64 l3))), (30, .c (.s (.b (decide ((256 : Int) < l3)))))], [], [⟨(.ro false), 5, 1, l0.length, .b l0⟩, ⟨(.ro false), 5, 1, l1.length, .b l1⟩]⟩) (by kernel_rfl) (allP_cons.2 ⟨g3, allP_nil⟩) ?_
          refine W_cond (b := (decide ((256 : Int) < l3))) (by kernel_rfl) (fun g28 => ?_) (fun g28 => ?_)
          · replace h := bif_t h g28
            refine W_seq ?_
            refine W_reg hT ftL_nil [] [] [8, 9] [] (s' := ⟨[(8, .c (.nils)), (9, .c (.s (.er 38 .i64 (some 4))))], [], []⟩) (by kernel_rfl) allP_nil ?_
            refine W_co [.nil 8 5 1 (.b []), .sb 8] [8, 9] [0] (s' := (mDerive_R ([], 0, (some 4)))) (by kernel_rfl) (W_ret ?_)
            exact ⟨.inl rfl, by cases h; rfl⟩
          · replace h := bif_f h g28
            refine W_co [] [0, 1, 2, 3] [0, 1] (s' := ⟨[(0, .c (.wh 0)), (1, .c (.wh 1)), (2, .c (.s (.k .i64 l2))), (3, .c (.s (.k .i64 l3)))], [], [⟨(.ro false), 5, 1, l0.length, .b l0⟩, ⟨(.ro false), 5, 1, l1.length, .b l1⟩]⟩) (by kernel_rfl) (W_skip ?_)
            refine W_seq ?_
            refine W_reg hT ftL_nil [] [] [0, 1, 2, 3, 11] [0, 1] (s' := ⟨[(0, .c (.wh 0)), (1, .c (.wh 1)), (2, .c (.s (.k .i64 l2))), (3, .c (.s (.k .i64 l3))), (11, .c (.nils))], [], [⟨(.ro false), 5, 1, l0.length, .b l0⟩, ⟨(.ro false), 5, 1, l1.length, .b l1⟩]⟩) (by kernel_rfl) allP_nil ?_
            refine W_seq ?_
            refine W_seq ?_
            refine W_reg hT ftL_nil [] [] [0, 1, 2, 3, 11, 12] [0, 1] (s' := ⟨[(0, .c (.wh 0)), (1, .c (.wh 1)), (2, .c (.s (.k .i64 l2))), (3, .c (.s (.k .i64 l3))), (11, .c (.nils)), (12, .c (.s (.k .i64 1)))], [], [⟨(.ro false), 5, 1, l0.length, .b l0⟩, ⟨(.ro false), 5, 1, l1.length, .b l1⟩]⟩) (by kernel_rfl) allP_nil ?_
            refine W_block ?_
            refine W_co [.nil 11 5 1 (.b [])] [0, 1, 2, 3, 11, 12] [0, 1, 2] (s' := (mDerive_l1_E l0 l1 l2 l3 [] 1)) (by kernel_rfl) (W_lp ((mDerive_l1_P n l0 l1 l2 l3 r)) n (mDerive_l1_M h) ?_)
            rintro fu_l1 _ ⟨l11_1, i12_1, rfl, h⟩
            cases fu_l1 with
            | zero => cases h
            | succ fu_l1 =>
              refine ⟨fu_l1, rfl, ?_⟩
              rw [mDerive_l1] at h
              refine W_seq ?_
              refine W_seq ?_
              refine W_reg hT ftL_nil [] [] [0, 1, 2, 3, 11, 12, 35] [0, 1, 2] (s' := ⟨[(0, .c (.wh 0)), (1, .c (.wh 1)), (2, .c (.s (.k .i64 l2))), (3, .c (.s (.k .i64 l3))), (11, .c (.wh 2)), (12, .c (.s (.k .i64 i12_1))), (35, .c (.s (.b (decide (((l11_1.length : Nat) : Int) < l3)))))], [], [⟨(.ro false), 5, 1, l0.length, .b l0⟩, ⟨(.ro false), 5, 1, l1.length, .b l1⟩, ⟨.row, 5, 1, l11_1.length, .b l11_1⟩]⟩) (by kernel_rfl) allP_nil ?_
              refine W_cond (b := (decide (((l11_1.length : Nat) : Int) < l3))) (by kernel_rfl) (fun g27 => ?_) (fun g27 => ?_)
              · replace h := bif_t h g27
                refine W_co [] [0, 1, 2, 3, 11, 12] [0, 1, 2] (s' := ⟨[(0, .c (.wh 0)), (1, .c (.wh 1)), (2, .c (.s (.k .i64 l2))), (3, .c (.s (.k .i64 l3))), (11, .c (.wh 2)), (12, .c (.s (.k .i64 i12_1)))], [], [⟨(.ro false), 5, 1, l0.length, .b l0⟩, ⟨(.ro false), 5, 1, l1.length, .b l1⟩, ⟨.row, 5, 1, l11_1.length, .b l11_1⟩]⟩) (by kernel_rfl) (W_skip ?_)
                refine W_seq ?_
                refine W_block ?_
                refine W_seq ?_
                obtain ⟨g4, h⟩ := gd_some h
                obtain ⟨g5, h⟩ := gd_some h
                obtain ⟨g6, h⟩ := gd_some h
                obtain ⟨g7, h⟩ := gd_some h
                obtain ⟨r48_2, g8, h⟩ := bind_some' h
                refine W_reg hT (ftL_cons (k := 9) (f := 20) (F := cat_ct) cat_h (fun _ _ => True.intro) (ftL_cons (k := 10) (f := 11) (F := (mMark_ct n r48_2)) (mMark_ok n r48_2) hI ftL_nil)) [] [] [0, 1, 2, 3, 11, 12, 13] [0, 1, 2, 6] (s' := ⟨[(0, .c (.wh 0)), (1, .c (.wh 1)), (2, .c (.s (.k .i64 l2))), (3, .c (.s (.k .i64 l3))), (11, .c (.wh 2)), (12, .c (.s (.k .i64 i12_1))), (13, .c (.wh 3))], [], [⟨(.ro false), 5, 1, l0.length, .b l0⟩, ⟨(.ro false), 5, 1, l1.length, .b l1⟩, ⟨.row, 5, 1, l11_1.length, .b l11_1⟩, ⟨.row, 5, 1, r48_2.length, .b r48_2⟩]⟩) (by kernel_rfl) (allP_cons.2 ⟨g4, (allP_cons.2 ⟨g5, (allP_cons.2 ⟨g6, (allP_cons.2 ⟨g7, (allP_cons.2 ⟨g8, allP_nil⟩)⟩)⟩)⟩)⟩) ?_
                refine W_seq ?_
                obtain ⟨g9, h⟩ := gd_some h
                refine W_reg hT (ftL_cons (k := 1) (f := 26) (F := cloneb_ct) cloneb_h (fun _ _ => True.intro) ftL_nil) [] [] [0, 1, 2, 3, 11, 12, 13, 14] [0, 1, 2, 3, 4] (s' := ⟨[(0, .c (.wh 0)), (1, .c (.wh 1)), (2, .c (.s (.k .i64 l2))), (3, .c (.s (.k .i64 l3))), (11, .c (.wh 2)), (12, .c (.s (.k .i64 i12_1))), (13, .c (.wh 3)), (14, .c (.wh 4))], [], [⟨(.ro false), 5, 1, l0.length, .b l0⟩, ⟨(.ro false), 5, 1, l1.length, .b l1⟩, ⟨.row, 5, 1, l11_1.length, .b l11_1⟩, ⟨.row, 5, 1, r48_2.length, .b r48_2⟩, ⟨.row, 5, 1, (r48_2).length, .b (r48_2)⟩]⟩) (by kernel_rfl) (allP_cons.2 ⟨g9, allP_nil⟩) ?_
                refine W_seq ?_
                refine W_seq ?_
                obtain ⟨g10, h⟩ := gd_some h
                refine W_reg hT ftL_nil [] [] [0, 1, 2, 3, 11, 12, 13, 14, 52, 53] [0, 1, 2, 3, 4] (s' := ⟨[(0, .c (.wh 0)), (1, .c (.wh 1)), (2, .c (.s (.k .i64 l2))), (3, .c (.s (.k .i64 l3))), (11, .c (.wh 2)), (12, .c (.s (.k .i64 i12_1))), (13, .c (.wh 3)), (14, .c (.wh 4)), (52, .c (.s (.k .i64 (l2 - 1)))), (53, .c (.s (.k .i64 0)))], [], [⟨(.ro false), 5, 1, l0.length, .b l0⟩, ⟨(.ro false), 5, 1, l1.length, .b l1⟩, ⟨.row, 5, 1, l11_1.length, .b l11_1⟩, ⟨.row, 5, 1, r48_2.length, .b r48_2⟩, ⟨.row, 5, 1, (r48_2).length, .b (r48_2)⟩]⟩) (by kernel_rfl) (allP_cons.2 ⟨g10, allP_nil⟩) ?_
                refine W_block ?_
                refine W_co [] [0, 1, 2, 3, 11, 12, 13, 14, 52, 53] [0, 1, 2, 3, 4] (s' := (mDerive_l2_E l0 l1 l2 l3 l11_1 i12_1 r48_2 r48_2 (r48_2) 0)) (by kernel_rfl) (W_lp ((mDerive_l2_P n l0 l1 l2 l3 l11_1 i12_1 r48_2 (mDerive_l1 n l0 l1 l2 l3 fu_l1) r)) n (mDerive_l2_M h) ?_)
                rintro fu_l2 _ ⟨l13_5, l14_21, i53_5, rfl, h⟩
                cases fu_l2 with
                | zero => cases h
                | succ fu_l2 =>
                  refine ⟨fu_l2, rfl, ?_⟩
                  rw [mDerive_l2] at h
                  refine W_seq ?_
                  refine W_reg hT ftL_nil [] [] [0, 1, 2, 3, 11, 12, 13, 14, 52, 53, 54] [0, 1, 2, 3, 4] (s' := ⟨[(0, .c (.wh 0)), (1, .c (.wh 1)), (2, .c (.s (.k .i64 l2))), (3, .c (.s (.k .i64 l3))), (11, .c (.wh 2)), (12, .c (.s (.k .i64 i12_1))), (13, .c (.wh 3)), (14, .c (.wh 4)), (52, .c (.s (.k .i64 (l2 - 1)))), (53, .c (.s (.k .i64 i53_5))), (54, .c (.s (.b (decide (i53_5 < (l2 - 1))))))], [], [⟨(.ro false), 5, 1, l0.length, .b l0⟩, ⟨(.ro false), 5, 1, l1.length, .b l1⟩, ⟨.row, 5, 1, l11_1.length, .b l11_1⟩, ⟨.row, 5, 1, l13_5.length, .b l13_5⟩, ⟨.row, 5, 1, (r48_2).length, .b l14_21⟩]⟩) (by kernel_rfl) allP_nil ?_
                  refine W_seq ?_
                  refine W_cond (b := (decide (i53_5 < (l2 - 1)))) (by kernel_rfl) (fun g23 => ?_) (fun g23 => ?_)
                  · replace h := bif_t h g23
                    refine W_co [] [0, 1, 2, 3, 11, 12, 13, 14, 52, 53] [0, 1, 2, 3, 4] (s' := ⟨[(0, .c (.wh 0)), (1, .c (.wh 1)), (2, .c (.s (.k .i64 l2))), (3, .c (.s (.k .i64 l3))), (11, .c (.wh 2)), (12, .c (.s (.k .i64 i12_1))), (13, .c (.wh 3)), (14, .c (.wh 4)), (52, .c (.s (.k .i64 (l2 - 1)))), (53, .c (.s (.k .i64 i53_5)))], [], [⟨(.ro false), 5, 1, l0.length, .b l0⟩, ⟨(.ro false), 5, 1, l1.length, .b l1⟩, ⟨.row, 5, 1, l11_1.length, .b l11_1⟩, ⟨.row, 5, 1, l13_5.length, .b l13_5⟩, ⟨.row, 5, 1, (r48_2).length, .b l14_21⟩]⟩) (by kernel_rfl) (W_skip ?_)
                    refine W_seq ?_
                    refine W_block ?_
                    refine W_seq ?_
                    obtain ⟨r57_8, g11, h⟩ := bind_some' h
                    refine W_reg hT (ftL_cons (k := 2) (f := 11) (F := (mMark_ct n r57_8)) (mMark_ok n r57_8) hI ftL_nil) [] [] [0, 1, 2, 3, 11, 12, 13, 14, 52, 53] [0, 1, 2, 5, 4] (s' := ⟨[(0, .c (.wh 0)), (1, .c (.wh 1)), (2, .c (.s (.k .i64 l2))), (3, .c (.s (.k .i64 l3))), (11, .c (.wh 2)), (12, .c (.s (.k .i64 i12_1))), (13, .c (.wh 3)), (14, .c (.wh 4)), (52, .c (.s (.k .i64 (l2 - 1)))), (53, .c (.s (.k .i64 i53_5)))], [], [⟨(.ro false), 5, 1, l0.length, .b l0⟩, ⟨(.ro false), 5, 1, l1.length, .b l1⟩, ⟨.row, 5, 1, l11_1.length, .b l11_1⟩, ⟨.row, 5, 1, r57_8.length, .b r57_8⟩, ⟨.row, 5, 1, (r48_2).length, .b l14_21⟩]⟩) (by kernel_rfl) (allP_cons.2 ⟨g11, allP_nil⟩) ?_
                    refine W_seq ?_
                    refine W_reg hT ftL_nil [] [] [0, 1, 2, 3, 11, 12, 13, 14, 52, 53, 59, 60] [0, 1, 2, 3, 4] (s' := ⟨[(0, .c (.wh 0)), (1, .c (.wh 1)), (2, .c (.s (.k .i64 l2))), (3, .c (.s (.k .i64 l3))), (11, .c (.wh 2)), (12, .c (.s (.k .i64 i12_1))), (13, .c (.wh 3)), (14, .c (.wh 4)), (52, .c (.s (.k .i64 (l2 - 1)))), (53, .c (.s (.k .i64 i53_5))), (59, .c (.s (.k .i64 (((r48_2).length : Nat) : Int)))), (60, .c (.s (.k .i64 0)))], [], [⟨(.ro false), 5, 1, l0.length, .b l0⟩, ⟨(.ro false), 5, 1, l1.length, .b l1⟩, ⟨.row, 5, 1, l11_1.length, .b l11_1⟩, ⟨.row, 5, 1, r57_8.length, .b r57_8⟩, ⟨.row, 5, 1, (r48_2).length, .b l14_21⟩]⟩) (by kernel_rfl) allP_nil ?_
                    refine W_block ?_
                    refine W_co [] [0, 1, 2, 3, 11, 12, 13, 14, 52, 53, 59, 60] [0, 1, 2, 3, 4] (s' := (mDerive_l3_E l0 l1 l2 l3 l11_1 i12_1 r48_2 i53_5 r57_8 l14_21 0)) (by kernel_rfl) (W_lp ((mDerive_l3_P n l0 l1 l2 l3 l11_1 i12_1 r48_2 i53_5 r57_8 (mDerive_l2 n l0 l1 l2 l3 l11_1 i12_1 r48_2 (mDerive_l1 n l0 l1 l2 l3 fu_l1) fu_l2) r)) n (mDerive_l3_M h) ?_)
                    rintro fu_l3 _ ⟨l14_23, i60_17, rfl, h⟩
                    cases fu_l3 with
                    | zero => cases h
                    | succ fu_l3 =>
                      refine ⟨fu_l3, rfl, ?_⟩
                      rw [mDerive_l3] at h
                      refine W_seq ?_
                      refine W_reg hT ftL_nil [] [] [0, 1, 2, 3, 11, 12, 13, 14, 52, 53, 59, 60, 61] [0, 1, 2, 3, 4] (s' := ⟨[(0, .c (.wh 0)), (1, .c (.wh 1)), (2, .c (.s (.k .i64 l2))), (3, .c (.s (.k .i64 l3))), (11, .c (.wh 2)), (12, .c (.s (.k .i64 i12_1))), (13, .c (.wh 3)), (14, .c (.wh 4)), (52, .c (.s (.k .i64 (l2 - 1)))), (53, .c (.s (.k .i64 i53_5))), (59, .c (.s (.k .i64 (((r48_2).length : Nat) : Int)))), (60, .c (.s (.k .i64 i60_17))), (61, .c (.s (.b (decide (i60_17 < (((r48_2).length : Nat) : Int))))))], [], [⟨(.ro false), 5, 1, l0.length, .b l0⟩, ⟨(.ro false), 5, 1, l1.length, .b l1⟩, ⟨.row, 5, 1, l11_1.length, .b l11_1⟩, ⟨.row, 5, 1, r57_8.length, .b r57_8⟩, ⟨.row, 5, 1, (r48_2).length, .b l14_23⟩]⟩) (by kernel_rfl) allP_nil ?_
                      refine W_seq ?_
                      refine W_cond (b := (decide (i60_17 < (((r48_2).length : Nat) : Int)))) (by kernel_rfl) (fun g20 => ?_) (fun g20 => ?_)
                      · replace h := bif_t h g20
                        refine W_co [] [0, 1, 2, 3, 11, 12, 13, 14, 52, 53, 59, 60] [0, 1, 2, 3, 4] (s' := ⟨[(0, .c (.wh 0)), (1, .c (.wh 1)), (2, .c (.s (.k .i64 l2))), (3, .c (.s (.k .i64 l3))), (11, .c (.wh 2)), (12, .c (.s (.k .i64 i12_1))), (13, .c (.wh 3)), (14, .c (.wh 4)), (52, .c (.s (.k .i64 (l2 - 1)))), (53, .c (.s (.k .i64 i53_5))), (59, .c (.s (.k .i64 (((r48_2).length : Nat) : Int)))), (60, .c (.s (.k .i64 i60_17)))], [], [⟨(.ro false), 5, 1, l0.length, .b l0⟩, ⟨(.ro false), 5, 1, l1.length, .b l1⟩, ⟨.row, 5, 1, l11_1.length, .b l11_1⟩, ⟨.row, 5, 1, r57_8.length, .b r57_8⟩, ⟨.row, 5, 1, (r48_2).length, .b l14_23⟩]⟩) (by kernel_rfl) (W_skip ?_)
                        refine W_seq ?_
                        refine W_block ?_
                        refine W_seq ?_
                        refine W_reg hT ftL_nil [] [] [0, 1, 2, 3, 11, 12, 13, 14, 15, 52, 53, 59, 60] [0, 1, 2, 3, 4] (s' := ⟨[(0, .c (.wh 0)), (1, .c (.wh 1)), (2, .c (.s (.k .i64 l2))), (3, .c (.s (.k .i64 l3))), (11, .c (.wh 2)), (12, .c (.s (.k .i64 i12_1))), (13, .c (.wh 3)), (14, .c (.wh 4)), (15, .c (.s (.k .i64 i60_17))), (52, .c (.s (.k .i64 (l2 - 1)))), (53, .c (.s (.k .i64 i53_5))), (59, .c (.s (.k .i64 (((r48_2).length : Nat) : Int)))), (60, .c (.s (.k .i64 i60_17)))], [], [⟨(.ro false), 5, 1, l0.length, .b l0⟩, ⟨(.ro false), 5, 1, l1.length, .b l1⟩, ⟨.row, 5, 1, l11_1.length, .b l11_1⟩, ⟨.row, 5, 1, r57_8.length, .b r57_8⟩, ⟨.row, 5, 1, (r48_2).length, .b l14_23⟩]⟩) (by kernel_rfl) allP_nil ?_
                        obtain ⟨g12, h⟩ := gd_some h
                        obtain ⟨g13, h⟩ := gd_some h
                        obtain ⟨g14, h⟩ := gd_some h
                        obtain ⟨g15, h⟩ := gd_some h
                        obtain ⟨g16, h⟩ := gd_some h
                        obtain ⟨g17, h⟩ := gd_some h
                        refine W_regD hT ftL_nil (by kernel_rfl) 8 [] [(0, false), (1, false), (2, false), (3, false), (11, false), (12, false), (13, false), (14, false), (52, false), (53, false), (59, false), (60, false), (63, false), (64, false), (66, false), (70, false)] [] [0, 1, 2, 3, 11, 12, 13, 14, 52, 53, 59, 60] [0, 1, 2, 3, 4] (s' := ⟨[(0, .c (.wh 0)), (1, .c (.wh 1)), (2, .c (.s (.k .i64 l2))), (3, .c (.s (.k .i64 l3))), (11, .c (.wh 2)), (12, .c (.s (.k .i64 i12_1))), (13, .c (.wh 3)), (14, .c (.wh 4)), (52, .c (.s (.k .i64 (l2 - 1)))), (53, .c (.s (.k .i64 i53_5))), (59, .c (.s (.k .i64 (((r48_2).length : Nat) : Int)))), (60, .c (.s (.k .i64 i60_17)))], [], [⟨(.ro false), 5, 1, l0.length, .b l0⟩, ⟨(.ro false), 5, 1, l1.length, .b l1⟩, ⟨.row, 5, 1, l11_1.length, .b l11_1⟩, ⟨.row, 5, 1, r57_8.length, .b r57_8⟩, ⟨.row, 5, 1, (r48_2).length, .b (l14_23.set i60_17.toNat ((l14_23.getD i60_17.toNat 0) ^^^ (r57_8.getD i60_17.toNat 0)))⟩]⟩) (by kernel_rfl) (by kernel_rfl) (allP_cons.2 ⟨g12, (allP_cons.2 ⟨g13, (allP_cons.2 ⟨g14, (allP_cons.2 ⟨g15, (allP_cons.2 ⟨g16, (allP_cons.2 ⟨g17, allP_nil⟩)⟩)⟩)⟩)⟩)⟩) ?_
                        obtain ⟨g18, h⟩ := gd_some h
                        refine W_reg hT ftL_nil [] [] [0, 1, 2, 3, 11, 12, 13, 14, 52, 53, 59, 60] [0, 1, 2, 3, 4] (s' := (mDerive_l3_E l0 l1 l2 l3 l11_1 i12_1 r48_2 i53_5 r57_8 (l14_23.set i60_17.toNat ((l14_23.getD i60_17.toNat 0) ^^^ (r57_8.getD i60_17.toNat 0))) (i60_17 + 1))) (by kernel_rfl) (allP_cons.2 ⟨g18, allP_nil⟩) ?_
                        exact mDerive_l3_M h
                      · replace h := bif_f h g20
                        refine W_co [] [0, 1, 2, 3, 11, 12, 13, 14, 52, 53] [0, 1, 2, 3, 4] (s' := ⟨[(0, .c (.wh 0)), (1, .c (.wh 1)), (2, .c (.s (.k .i64 l2))), (3, .c (.s (.k .i64 l3))), (11, .c (.wh 2)), (12, .c (.s (.k .i64 i12_1))), (13, .c (.wh 3)), (14, .c (.wh 4)), (52, .c (.s (.k .i64 (l2 - 1)))), (53, .c (.s (.k .i64 i53_5)))], [], [⟨(.ro false), 5, 1, l0.length, .b l0⟩, ⟨(.ro false), 5, 1, l1.length, .b l1⟩, ⟨.row, 5, 1, l11_1.length, .b l11_1⟩, ⟨.row, 5, 1, r57_8.length, .b r57_8⟩, ⟨.row, 5, 1, (r48_2).length, .b l14_23⟩]⟩) (by kernel_rfl) (W_exit ?_)
                        obtain ⟨g19, h⟩ := gd_some h
                        refine W_reg hT ftL_nil [] [] [0, 1, 2, 3, 11, 12, 13, 14, 52, 53] [0, 1, 2, 3, 4] (s' := (mDerive_l2_E l0 l1 l2 l3 l11_1 i12_1 r48_2 r57_8 l14_23 (i53_5 + 1))) (by kernel_rfl) (allP_cons.2 ⟨g19, allP_nil⟩) ?_
                        exact mDerive_l2_M h
                  · replace h := bif_f h g23
                    refine W_co [] [0, 1, 2, 3, 11, 12, 14] [0, 1, 2, 4] (s' := ⟨[(0, .c (.wh 0)), (1, .c (.wh 1)), (2, .c (.s (.k .i64 l2))), (3, .c (.s (.k .i64 l3))), (11, .c (.wh 2)), (12, .c (.s (.k .i64 i12_1))), (14, .c (.wh 3))], [], [⟨(.ro false), 5, 1, l0.length, .b l0⟩, ⟨(.ro false), 5, 1, l1.length, .b l1⟩, ⟨.row, 5, 1, l11_1.length, .b l11_1⟩, ⟨.row, 5, 1, (r48_2).length, .b l14_21⟩]⟩) (by kernel_rfl) (W_exit ?_)
                    obtain ⟨g21, h⟩ := gd_some h
                    refine W_reg hT ftL_nil [] [] [0, 1, 2, 3, 11, 12] [0, 1, 4] (s' := ⟨[(0, .c (.wh 0)), (1, .c (.wh 1)), (2, .c (.s (.k .i64 l2))), (3, .c (.s (.k .i64 l3))), (11, .c (.wh 2)), (12, .c (.s (.k .i64 i12_1)))], [], [⟨(.ro false), 5, 1, l0.length, .b l0⟩, ⟨(.ro false), 5, 1, l1.length, .b l1⟩, ⟨.row, 5, 1, (l11_1 ++ l14_21).length, .b (l11_1 ++ l14_21)⟩]⟩) (by kernel_rfl) (allP_cons.2 ⟨g21, allP_nil⟩) ?_
                    obtain ⟨g22, h⟩ := gd_some h
                    refine W_reg hT ftL_nil [] [] [0, 1, 2, 3, 11, 12] [0, 1, 2] (s' := (mDerive_l1_E l0 l1 l2 l3 (l11_1 ++ l14_21) (i12_1 + 1))) (by kernel_rfl) (allP_cons.2 ⟨g22, allP_nil⟩) ?_
                    exact mDerive_l1_M h
              · replace h := bif_f h g27
                refine W_co [] [3, 11] [2] (s' := ⟨[(3, .c (.s (.k .i64 l3))), (11, .c (.wh 0))], [], [⟨.row, 5, 1, l11_1.length, .b l11_1⟩]⟩) (by kernel_rfl) (W_exit ?_)
                refine W_seq ?_
                obtain ⟨g24, h⟩ := gd_some h
                obtain ⟨g25, h⟩ := gd_some h
                obtain ⟨g26, h⟩ := gd_some h
                refine W_reg hT ftL_nil [] [] [8, 9] [0] (s' := ⟨[(8, .c (.sl 0 0 l3.toNat)), (9, .c (.s (.v .nilIface)))], [], [⟨.row, 5, 1, l11_1.length, .b l11_1⟩]⟩) (by kernel_rfl) (allP_cons.2 ⟨g24, (allP_cons.2 ⟨g25, (allP_cons.2 ⟨g26, allP_nil⟩)⟩)⟩) ?_
                refine W_co [.er 9 38 .i64] [8, 9] [0] (s' := (mDerive_R (l11_1, l3.toNat, none))) (by kernel_rfl) (W_ret ?_)
                exact ⟨.inl rfl, by cases h; rfl⟩
  · rintro e s' ⟨he, rfl⟩
    refine ⟨he, fun a' w' hr => ?_⟩
    exact retS_ok tabO_ma hr (rs := [.tmp 8, .tmp 9]) rfl (objs := [0]) (by kernel_rfl)
def mup_R (r : Bool) : S := ⟨[(0, .c (.s (.b r)))], [], []⟩
def mup_ct (n : Nat) (r : Bool) : Ct := fun args H => match args with
  | [] => some ([mup n = some r], shA H.length (.c (.s (.b r))), shH H.length [])
  | _ => none
theorem mup_ok (n : Nat) (r : Bool) : FnOk Tryd.prog GK 9 (mup_ct n r) := by
  refine ⟨fun args H g av objs hF hg ρ w vals hG hp ha => ?_, _, Tryd.func9, by kernel_rfl, by kernel_rfl⟩
  obtain rfl : args = [] := by
    unfold mup_ct at hF; split at hF
    · exact rfl
    · cases hF
  simp only [mup_ct, Option.some.injEq, Prod.mk.injEq] at hF
  obtain ⟨rfl, rfl, rfl⟩ := hF
  obtain rfl := F2.inv0 ha
  have hI : ∀ w', Kp (noB (fun _ => undef)) w w' → GK w' := fun _ hk => GK.keep hk.below hG
  have h : mup n = some r := hg
  have hR0 := rel0 (gv := (fun _ => undef)) (n := 31) (w := w) (args := []) (H := []) (gl := []) (hpL (ps := []) F2.nil) (allRo_ok rfl) F2.nil GlR.nil (by simp)
  clear ha hp hg 
  refine calls_W Tryd.func9 rfl rfl hR0 (Q := fun e s => (e = .ret ∨ e = .normal) ∧ s = mup_R r) ?_ ?_
  · clear hR0
    unfold mup at h
    have hT := tabO_ma
    refine W_seq ?_
    refine W_reg hT ftL_nil [] [] [] [] (s' := ⟨[], [], []⟩) (by kernel_rfl) allP_nil ?_
    refine W_seq ?_
    refine W_reg hT ftL_nil [] [] [1] [] (s' := ⟨[(1, .c (.s (.str ([91, 220, 193, 70, 191, 96, 117, 78, 106, 4, 36, 38, 8, 149, 117, 199, 90, 0, 63, 8, 157, 39, 57, 131, 157, 236, 88, 185, 100, 236, 56, 67] : List UInt8))))], [], []⟩) (by kernel_rfl) allP_nil ?_
    refine W_seq ?_
    refine W_reg hT ftL_nil [] [] [1, 2] [] (s' := ⟨[(1, .c (.s (.str ([91, 220, 193, 70, 191, 96, 117, 78, 106, 4, 36, 38, 8, 149, 117, 199, 90, 0, 63, 8, 157, 39, 57, 131, 157, 236, 88, 185, 100, 236, 56, 67] : List UInt8)))), (2, .c (.s (.str ([85, 172, 4, 110, 86, 227, 8, 159, 236, 22, 145, 194, 37, 68, 182, 5] : List UInt8))))], [], []⟩) (by kernel_rfl) allP_nil ?_
    refine W_seq ?_
    obtain ⟨r10, g1, h⟩ := bind_some' h
    refine W_reg hT (ftL_cons (k := 4) (f := 14) (F := (mDerive_ct n r10)) (mDerive_ok n r10) hI ftL_nil) [] [] [1, 2, 3, 4] [2] (s' := ⟨[(1, .c (.s (.str ([91, 220, 193, 70, 191, 96, 117, 78, 106, 4, 36, 38, 8, 149, 117, 199, 90, 0, 63, 8, 157, 39, 57, 131, 157, 236, 88, 185, 100, 236, 56, 67] : List UInt8)))), (2, .c (.s (.str ([85, 172, 4, 110, 86, 227, 8, 159, 236, 22, 145, 194, 37, 68, 182, 5] : List UInt8)))), (3, .c (.sl 0 0 r10.2.1)), (4, .c (.s (.er 38 .i64 r10.2.2)))], [], [⟨.row, 5, 1, r10.1.length, .b r10.1⟩]⟩) (by kernel_rfl) (allP_cons.2 ⟨g1, allP_nil⟩) ?_
    refine W_seq ?_
    obtain ⟨r17, g2, h⟩ := bind_some' h
    rcases Bool.eq_false_or_eq_true (r17 == ([91, 220, 193, 70, 191, 96, 117, 78, 106, 4, 36, 38, 8, 149, 117, 199, 90, 0, 63, 8, 157, 39, 57, 131, 157, 236, 88, 185, 100, 236, 56, 67] : List UInt8)) with g3 | g3
    · replace h := bif_t h g3
      rcases Bool.eq_false_or_eq_true ((r10.2.2).isNone) with g4 | g4
      · replace h := bif_t h g4
        refine W_reg hT (ftL_cons (k := 4) (f := 11) (F := (mMark_ct n r17)) (mMark_ok n r17) hI ftL_nil) [(8, true), (12, true)] [] [0] [] (s' := ⟨[(0, .c (.s (.b (((r10.1.drop 0).take r10.2.1) == ([85, 172, 4, 110, 86, 227, 8, 159, 236, 22, 145, 194, 37, 68, 182, 5] : List UInt8)))))], [], []⟩) (by kernel_rfl) (allP_cons.2 ⟨g2, (allP_cons.2 ⟨g3, (allP_cons.2 ⟨g4, allP_nil⟩)⟩)⟩) ?_
        refine W_co [] [0] [] (s' := (mup_R (((r10.1.drop 0).take r10.2.1) == ([85, 172, 4, 110, 86, 227, 8, 159, 236, 22, 145, 194, 37, 68, 182, 5] : List UInt8)))) (by kernel_rfl) (W_ret ?_)
        exact ⟨.inl rfl, by cases h; rfl⟩
      · replace h := bif_f h g4
        refine W_reg hT (ftL_cons (k := 4) (f := 11) (F := (mMark_ct n r17)) (mMark_ok n r17) hI ftL_nil) [(8, true), (12, false)] [] [0] [] (s' := ⟨[(0, .c (.s (.b false)))], [], []⟩) (by kernel_rfl) (allP_cons.2 ⟨g2, (allP_cons.2 ⟨g3, (allP_cons.2 ⟨g4, allP_nil⟩)⟩)⟩) ?_
        refine W_co [] [0] [] (s' := (mup_R false)) (by kernel_rfl) (W_ret ?_)
        exact ⟨.inl rfl, by cases h; rfl⟩
    · replace h := bif_f h g3
      refine W_reg hT (ftL_cons (k := 4) (f := 11) (F := (mMark_ct n r17)) (mMark_ok n r17) hI ftL_nil) [(8, false)] [] [0] [] (s' := ⟨[(0, .c (.s (.b false)))], [], []⟩) (by kernel_rfl) (allP_cons.2 ⟨g2, (allP_cons.2 ⟨g3, allP_nil⟩)⟩) ?_
      refine W_co [] [0] [] (s' := (mup_R false)) (by kernel_rfl) (W_ret ?_)
      exact ⟨.inl rfl, by cases h; rfl⟩
  · rintro e s' ⟨he, rfl⟩
    refine ⟨he, fun a' w' hr => ?_⟩
    exact retS_ok tabO_ma hr (rs := [.tmp 0]) rfl (objs := []) (by kernel_rfl)
end Go.Proofs.YtamddohbpdbdmaaDoor
end
section
set_option linter.unusedVariables false
set_option linter.unusedSimpArgs false
namespace Go.Proofs.YtamddohbpdbdmaaDoor
open Go.RowKit Go.Ch Go.Sx
def tabL_mt : List (TypeId × Ti) := [(3, ⟨.int .i64, 1, 8, true, some [.int .i64]⟩),
  (5, ⟨.int .u8, 1, 1, true, some [.int .u8]⟩),
  (22, ⟨.sl 5, 1, 24, false, some [.nils]⟩),
  (35, ⟨.ifc, 1, 16, true, some [.ifc]⟩),
  (55, ⟨.sl 22, 1, 24, false, some [.nils]⟩)]
def tab_mt : Tab := fun t => (tabL_mt).lookup t
theorem tabE_mt : (tabL_mt.map fun p => tiOf Tryd.prog p.1) = tabL_mt.map fun p => some p.2 := by kernel_rfl
theorem tabO_mt : TabOk Tryd.prog tab_mt := tab_of tabE_mt
def mcut (n : Nat) (a0 : List UInt8) (a1 : Int) : Option (List UInt8 × Nat) :=
  bif (decide (a1 < ((a0.length : Nat) : Int))) then
    gd (0 ≤ a1) <|
    gd (a1 ≤ ((a0.length : Nat) : Int)) <|
    some (a0, a1.toNat)
  else
    some (a0, a0.length)
def mcut_R (r : List UInt8 × Nat) : S := ⟨[(4, .c (.sl 0 0 r.2))], [(1000000, .c (.wh 0))], [⟨(.ro false), 5, 1, r.1.length, .b r.1⟩]⟩
def mcut_ct (n : Nat) (r : List UInt8 × Nat) : Ct := fun args H => match args with
  | [x0, x1] => (match aB H x0 with | some l0 => (match aI x1 with | some l1 => (match subC 0 r.2 x0 with | some ys => some ([mcut n l0 l1 = some r], ys, []) | none => none) | none => none) | none => none)
  | _ => none
theorem mcut_ok (n : Nat) (r : List UInt8 × Nat) : FnOk Tryd.prog Tr 10 (mcut_ct n r) := by
  refine ⟨fun args H g av objs hF hg ρ w vals hG hp ha => ?_, _, Tryd.func10, by kernel_rfl, by kernel_rfl⟩
  obtain ⟨x0, x1, rfl⟩ : ∃ x0 x1, args = [x0, x1] := by
    unfold mcut_ct at hF; split at hF
    · exact ⟨_, _, rfl⟩
    · cases hF
  cases e0 : aB H x0 with
  | none => simp only [mcut_ct, e0, reduceCtorEq] at hF
  | some l0 =>
  cases e1 : aI x1 with
  | none => simp only [mcut_ct, e0, e1, reduceCtorEq] at hF
  | some l1 =>
  cases e2 : subC 0 r.2 x0 with
  | none => simp only [mcut_ct, e0, e1, e2, reduceCtorEq] at hF
  | some ys =>
  simp only [mcut_ct, e0, e1, e2, Option.some.injEq, Prod.mk.injEq] at hF
  obtain ⟨rfl, rfl, rfl⟩ := hF
  obtain ⟨v0, vals, rfl, k0, ha⟩ := F2.inv ha
  obtain ⟨v1, vals, rfl, k1, ha⟩ := F2.inv ha
  obtain rfl := F2.inv0 ha
  have hI : ∀ w', Kp (noB (fun j => ([v0, v1] : List Value).getD j undef)) w w' → Tr w' := fun _ hk => Tr.keep hk.below hG
  have h : mcut n l0 l1 = some r := hg
  obtain ⟨p0, s0, o0⟩ := aB_ok hp e0 (k0) 5
  have s1 := aI_ok e1 (k1)
  have kk := k0
  have zz := aB_sz hp e0
  have hR0 := rel0 (gv := (fun j => ([v0, v1] : List Value).getD j undef)) (n := 13) (w := w) (args := [.c (.wh 0), .c (.s (.k .i64 l1))]) (H := [⟨.ro false, 5, 1, l0.length, .b l0⟩]) (gl := [(1000000, .c (.wh 0))]) (hpL (ps := [p0]) (F2.cons o0 F2.nil)) (allRo_ok rfl) (F2.cons s0 (F2.cons s1 F2.nil)) (GlR.cons 0 s0 GlR.nil) (by simp)
  clear ha hp hg k0 k1 e0 e1
  refine calls_W Tryd.func10 rfl rfl hR0 (Q := fun e s => (e = .ret ∨ e = .normal) ∧ s = mcut_R r) ?_ ?_
  · clear hR0
    unfold mcut at h
    have hT := tabO_mt
    refine W_seq ?_
    refine W_reg hT ftL_nil [] [] [0, 1] [0] (s' := ⟨[(0, .c (.wh 0)), (1, .c (.s (.k .i64 l1)))], [(1000000, .c (.wh 0))], [⟨(.ro false), 5, 1, l0.length, .b l0⟩]⟩) (by kernel_rfl) allP_nil ?_
    refine W_seq ?_
    refine W_seq ?_
    refine W_reg hT ftL_nil [] [] [0, 1, 8] [0] (s' := ⟨[(0, .c (.wh 0)), (1, .c (.s (.k .i64 l1))), (8, .c (.s (.b (decide (l1 < ((l0.length : Nat) : Int))))))], [(1000000, .c (.wh 0))], [⟨(.ro false), 5, 1, l0.length, .b l0⟩]⟩) (by kernel_rfl) allP_nil ?_
    refine W_cond (b := (decide (l1 < ((l0.length : Nat) : Int)))) (by kernel_rfl) (fun g3 => ?_) (fun g3 => ?_)
    · replace h := bif_t h g3
      refine W_seq ?_
      obtain ⟨g1, h⟩ := gd_some h
      obtain ⟨g2, h⟩ := gd_some h
      refine W_reg hT ftL_nil [] [] [4] [0] (s' := ⟨[(4, .c (.sl 0 0 l1.toNat))], [(1000000, .c (.wh 0))], [⟨(.ro false), 5, 1, l0.length, .b l0⟩]⟩) (by kernel_rfl) (allP_cons.2 ⟨g1, (allP_cons.2 ⟨g2, allP_nil⟩)⟩) ?_
      refine W_co [] [4] [0] (s' := (mcut_R (l0, l1.toNat))) (by kernel_rfl) (W_ret ?_)
      exact ⟨.inl rfl, by cases h; rfl⟩
    · replace h := bif_f h g3
      refine W_co [] [0] [0] (s' := ⟨[(0, .c (.wh 0))], [(1000000, .c (.wh 0))], [⟨(.ro false), 5, 1, l0.length, .b l0⟩]⟩) (by kernel_rfl) (W_skip ?_)
      refine W_seq ?_
      refine W_reg hT ftL_nil [] [] [4] [0] (s' := ⟨[(4, .c (.wh 0))], [(1000000, .c (.wh 0))], [⟨(.ro false), 5, 1, l0.length, .b l0⟩]⟩) (by kernel_rfl) allP_nil ?_
      refine W_co [.sb 4] [4] [0] (s' := (mcut_R (l0, l0.length))) (by kernel_rfl) (W_ret ?_)
      exact ⟨.inl rfl, by cases h; rfl⟩
  · rintro e s' ⟨he, rfl⟩
    refine ⟨he, fun a' w' hr => ?_⟩
    exact retB_ok (q := 0) hr rfl rfl rfl (by kernel_rfl) kk zz e2
end Go.Proofs.YtamddohbpdbdmaaDoor
end
section
set_option linter.unusedVariables false
set_option linter.unusedSimpArgs false
namespace Go.Sx
open Go.RowKit Go.Ch
theorem okI64 {n : Int} (h0 : -9223372036854775808 ≤ n) (h1 : n < 9223372036854775808) : okI .i64 n := by
  unfold okI IntKind.wrap
  simp [IntKind.bits, IntKind.signed]
  omega
def filN {α : Type} (z : α) (xs : List α) (j n : Nat) : List α := xs.take j ++ List.replicate (n - j) z
theorem filN_zero {α : Type} (z : α) (xs : List α) (n : Nat) : filN z xs 0 n = List.replicate n z := by simp [filN]
theorem filN_all {α : Type} (z : α) (xs : List α) (n : Nat) : filN z xs n n = xs.take n := by simp [filN]
theorem filN_set {α : Type} (z : α) (xs : List α) (j n : Nat) (hj : j < n) (hx : j < xs.length) : (filN z xs j n).set j (xs.getD j z) = filN z xs (j + 1) n := by
  unfold filN
  have hl : (xs.take j).length = j := by simp; omega
  rw [List.set_append_right _ _ (by omega), hl, Nat.sub_self, show n - j = (n - (j + 1)) + 1 by omega, List.replicate_succ, List.set_cons_zero, List.take_succ_eq_append_getElem hx, List.getD_eq_getElem?_getD, List.getElem?_eq_getElem hx]
  simp only [Option.getD_some, List.append_assoc, List.singleton_append]
theorem getD_drop {α : Type} (z : α) (xs : List α) (i j : Nat) : (xs.drop i).getD j z = xs.getD (i + j) z := by
  rw [List.getD_eq_getElem?_getD, List.getD_eq_getElem?_getD, List.getElem?_drop]
theorem ite_t {α : Type} {b : Bool} {x y : α} (h : b = true) : (bif b then x else y) = x := by rw [h]; rfl
theorem ite_f {α : Type} {b : Bool} {x y : α} (h : b = false) : (bif b then x else y) = y := by rw [h]; rfl
def upN {α : Type} (f : α → α) (l : List α) (j : Nat) : List α := (l.take j).map f ++ l.drop j
theorem upN_all {α : Type} (f : α → α) (l : List α) (j : Nat) (h : l.length ≤ j) : upN f l j = l.map f := by
  unfold upN; rw [List.take_of_length_le h, List.drop_of_length_le h, List.append_nil]
theorem upN_set {α : Type} (z : α) (f : α → α) (l : List α) (j : Nat) (h : j < l.length) : (upN f l j).set j (f ((upN f l j).getD j z)) = upN f l (j + 1) := by
  have hl : ((l.take j).map f).length = j := by simp; omega
  have hg : (upN f l j).getD j z = l[j] := by
    unfold upN
    rw [List.getD_eq_getElem?_getD, List.getElem?_append_right (by omega), hl, Nat.sub_self, List.getElem?_drop, Nat.add_zero, List.getElem?_eq_getElem h]
    rfl
  rw [hg]
  unfold upN
  rw [List.set_append_right _ _ (by omega), hl, Nat.sub_self, List.drop_eq_getElem_cons h, List.set_cons_zero, List.take_succ_eq_append_getElem h, List.map_append]
  simp only [List.map_cons, List.map_nil, List.append_assoc, List.singleton_append]
theorem law_of {P : Program} {I : World → Prop} {f : FuncId} {F : Ct} {args : List AV} {H : Hp} {g : List Prop} {objs : List Oj} {ρ : Pls} {w : World} {vals : List Value} (h : FnOk P I f F) (hF : F args H = some (g, .c (.s (.b true)), objs)) (hg : allP g)
    (hI : I w) (hp : HpR ρ w H) (ha : F2 (avR ρ) args vals) : Calls P f vals.toArray w (Ret fun v w' => Ext w w' ∧ v = .bool true) :=
  calls_mono (h.ct args H g _ objs hF hg ρ w vals hI hp ha) fun _ _ ⟨hx, _, hL⟩ => ⟨hx, hL.val⟩
theorem in_b {w : World} {B : Nat} {v : Value} {l : List UInt8} (hv : Sl w B v (l.map bU)) (e : TypeId) : ∃ p, InSl w e l.length (.b l) v p := by
  have h := sl_slr hv
  rw [List.length_map] at h
  exact in_sl h (fun ρ => csR_b.2 rfl) e
end Go.Sx
end
section
set_option linter.unusedVariables false
set_option linter.unusedSimpArgs false
namespace Go.Sx
open Go Go.RowKit Go.Ch Go.Proofs.YtamddohbpdbdmaaDoor
def N64 : Nat := 18446744073709551616
abbrev Dg (l : List UInt8) : List UInt8 := digest consts begin8 l
theorem Dg_len (l : List UInt8) : (Dg l).length = 32 := length_digest _ _ _
theorem consts_len : consts.length = 64 := rfl
theorem mup_is : mup N64 = some true := by decide +kernel
def hkey (k : List UInt8) : List UInt8 := if 64 < k.length then Dg k else k
theorem hkey_len (k : List UInt8) : (hkey k).length ≤ 64 := by
  unfold hkey; split
  · rw [Dg_len]; omega
  · omega
def padk (k : List UInt8) : List UInt8 := k ++ List.replicate (64 - k.length) 0
theorem padk_len {k : List UInt8} (h : k.length ≤ 64) : (padk k).length = 64 := by unfold padk; simp; omega
def hmac (k b : List UInt8) : List UInt8 := Dg ((padk (hkey k)).map (· ^^^ 92) ++ Dg ((padk (hkey k)).map (· ^^^ 54) ++ b))
theorem hmac_len (k b : List UInt8) : (hmac k b).length = 32 := Dg_len _
theorem mpadded_l1_is (n : Nat) (x : UInt8) (l : List UInt8) (hl : l.length = 64) : ∀ (m i fu : Nat), i + m = 64 → m < fu → mpadded_l1 n x fu (upN (· ^^^ x) l i) (i : Int) = some (l.map (· ^^^ x)) := by
  intro m
  induction m with
  | zero =>
    intro i fu hi hf
    cases fu with
    | zero => omega
    | succ fu => rw [mpadded_l1, ite_f (by simp <;> omega), upN_all _ _ _ (by omega)]
  | succ m ih =>
    intro i fu hi hf
    cases fu with
    | zero => omega
    | succ fu =>
      rw [mpadded_l1, ite_t (by simp <;> omega), gd_pos (by omega), gd_pos (by omega), gd_pos (by omega), gd_pos (by omega), gd_pos (okI64 (by omega) (by omega)), Int.toNat_natCast, upN_set 0 (· ^^^ x) l i (by omega)]
      exact ih (i + 1) fu (by omega) (by omega)
theorem mpadded_j1_is {n : Nat} (hn : 100 ≤ n) (x : UInt8) {k : List UInt8} (hk : k.length ≤ 64) : mpadded_j1 n x k = some ((padk k).map (· ^^^ x)) := by
  unfold mpadded_j1
  rw [gd_pos (by decide), gd_pos rfl, gd_pos (by unfold rmB; decide)]
  have e : ((List.replicate 64 0).take 0 ++ k.take (min k.length 64)) ++ (List.replicate 64 0).drop (0 + min k.length 64) = padk k := by
    rw [Nat.min_eq_left hk, List.take_zero, List.nil_append, List.take_of_length_le (Nat.le_refl _), List.drop_replicate, Nat.zero_add]; rfl
  rw [e]
  exact mpadded_l1_is n x (padk k) (padk_len hk) 64 0 n (by omega) (by omega)
theorem mpadded_is {n : Nat} (hn : 100 ≤ n) (x : UInt8) {k : List UInt8} (hk : k.length ≤ 100000) : mpadded n k x = some ((padk (hkey k)).map (· ^^^ x)) := by
  unfold mpadded
  by_cases h : 64 < k.length
  · rw [ite_t (by simp <;> omega), gd_pos hk, mpadded_j1_is hn x (by rw [length_digest]; omega)]
    unfold hkey; rw [if_pos h]
  · rw [ite_f (by simp <;> omega), mpadded_j1_is hn x (by omega)]
    unfold hkey; rw [if_neg h]
theorem fl2 (x y : List UInt8) : ([x, y] : List (List UInt8)).flatten = x ++ y := by simp
theorem mMark_is {n : Nat} (hn : 100 ≤ n) {k b : List UInt8} (hk : k.length ≤ 90000) (hb : b.length ≤ 90000) : mMark n k b = some (hmac k b) := by
  have hl := padk_len (hkey_len k)
  unfold mMark
  rw [mpadded_is hn 54 (by omega), Option.bind_some, fl2, gd_pos (by simp), gd_pos (by simp [hl]; omega), gd_pos (by simp [hl]; omega), mpadded_is hn 92 (by omega), Option.bind_some, fl2, gd_pos (by simp), gd_pos (by simp [hl, length_digest]), gd_pos (by simp [hl, length_digest])]
  rfl
def xorN (a u : List UInt8) : Nat → List UInt8
  | 0 => a
  | k + 1 => (xorN a u k).set k ((xorN a u k).getD k 0 ^^^ u.getD k 0)
theorem xorN_len (a u : List UInt8) : ∀ k, (xorN a u k).length = a.length
  | 0 => rfl
  | k + 1 => by rw [xorN, List.length_set, xorN_len a u k]
theorem xorN_zero (a u : List UInt8) : xorN a u 0 = a := rfl
theorem xorN_succ (a u : List UInt8) (k : Nat) : (xorN a u k).set k ((xorN a u k).getD k 0 ^^^ u.getD k 0) = xorN a u (k + 1) := rfl
attribute [irreducible] xorN
def rnd (key : List UInt8) : Nat → List UInt8 × List UInt8 → List UInt8 × List UInt8
  | 0, p => p
  | k + 1, p => rnd key k (hmac key p.1, xorN p.2 (hmac key p.1) 32)
theorem rnd_len (key : List UInt8) : ∀ (k : Nat) (p : List UInt8 × List UInt8), (rnd key k p).2.length = p.2.length
  | 0, p => rfl
  | k + 1, p => (rnd_len key k (hmac key p.1, xorN p.2 (hmac key p.1) 32)).trans (xorN_len p.2 (hmac key p.1) 32)
def blk (key salt : List UInt8) (r i : Nat) : List UInt8 :=
  (rnd key (r - 1) (hmac key (salt ++ [0, 0, UInt8.ofInt ((i : Int) / 2 ^ 8), UInt8.ofInt (i : Int)]), hmac key (salt ++ [0, 0, UInt8.ofInt ((i : Int) / 2 ^ 8), UInt8.ofInt (i : Int)]))).2
theorem blk_len (key salt : List UInt8) (r i : Nat) : (blk key salt r i).length = 32 := by
  unfold blk; exact (rnd_len _ _ _).trans (hmac_len _ _)
def outS (key salt : List UInt8) (r : Nat) : Nat → List UInt8
  | 0 => []
  | m + 1 => outS key salt r m ++ blk key salt r (m + 1)
theorem outS_len (key salt : List UInt8) (r : Nat) : ∀ m, (outS key salt r m).length = 32 * m
  | 0 => rfl
  | m + 1 => by rw [outS, List.length_append, outS_len key salt r m, blk_len]; omega
theorem mDerive_l3_is (n : Nat) (a0 a1 : List UInt8) (a2 a3 : Int) (l11 : List UInt8) (i12 : Int) (r48 : List UInt8) (h48 : r48.length = 32) (j : Nat) (hj : j ≤ 100000) (u : List UInt8) (hu : u.length = 32) (al : List UInt8) (k : List UInt8 → List UInt8 → Int → Option (List UInt8 × Nat × Option Int)) :
    ∀ (m i fu : Nat), i + m = 32 → m < fu → mDerive_l3 n a0 a1 a2 a3 l11 i12 r48 (j : Int) u k fu (xorN al u i) (i : Int) = k u (xorN al u 32) ((j : Int) + 1) := by
  intro m
  induction m with
  | zero =>
    intro i fu hi hf
    obtain rfl : i = 32 := by omega
    cases fu with
    | zero => omega
    | succ fu => rw [mDerive_l3, ite_f (by simp <;> omega), gd_pos (okI64 (by omega) (by omega))]
  | succ m ih =>
    intro i fu hi hf
    cases fu with
    | zero => omega
    | succ fu =>
      rw [mDerive_l3, ite_t (by simp <;> omega), gd_pos (by omega), gd_pos (by omega), gd_pos (by omega), gd_pos (by omega), gd_pos (by omega), gd_pos (by omega), gd_pos (okI64 (by omega) (by omega)), Int.toNat_natCast, xorN_succ]
      exact ih (i + 1) fu (by omega) (by omega)
theorem mDerive_l2_is {n : Nat} (hn : 200 ≤ n) (a0 a1 : List UInt8) (h0 : a0.length ≤ 4000) (r : Nat) (hr : r ≤ 10000) (hr1 : 1 ≤ r) (a3 : Int) (l11 : List UInt8) (h11 : l11.length ≤ 1000000) (i12 : Nat) (h12 : i12 ≤ 1000000) (r48 : List UInt8) (h48 : r48.length = 32) (k : List UInt8 → Int → Option (List UInt8 × Nat × Option Int)) :
    ∀ (m j fu : Nat) (p : List UInt8 × List UInt8), j + m = r - 1 → m < fu → p.1.length = 32 → mDerive_l2 n a0 a1 (r : Int) a3 l11 (i12 : Int) r48 k fu p.1 p.2 (j : Int) = k (l11 ++ (rnd a0 m p).2) ((i12 : Int) + 1) := by
  intro m
  induction m with
  | zero =>
    intro j fu p hj hf hp
    cases fu with
    | zero => omega
    | succ fu => rw [mDerive_l2, ite_f (by simp <;> omega), gd_pos (by unfold rmB; omega), gd_pos (okI64 (by omega) (by omega))]; rfl
  | succ m ih =>
    intro j fu p hj hf hp
    cases fu with
    | zero => omega
    | succ fu =>
      rw [mDerive_l2, ite_t (by simp <;> omega), mMark_is (by omega) (by omega) (by omega), Option.bind_some]
      have h3 := mDerive_l3_is n a0 a1 (r : Int) a3 l11 i12 r48 h48 j (by omega) (hmac a0 p.1) (hmac_len _ _) p.2 (mDerive_l2 n a0 a1 (r : Int) a3 l11 i12 r48 k fu) 32 0 n (by omega) (by omega)
      rw [show ((0 : Nat) : Int) = 0 from rfl] at h3
      rw [xorN_zero] at h3
      rw [h3, rnd]
      have hl := hmac_len a0 p.1
      generalize xorN p.2 (hmac a0 p.1) 32 = z
      generalize hmac a0 p.1 = u at hl ⊢
      exact ih (j + 1) fu (u, z) (by omega) (by omega) hl
theorem mDerive_l1_is {n : Nat} (hn : 100000 ≤ n) (a0 a1 : List UInt8) (h0 : a0.length ≤ 4000) (h1 : a1.length ≤ 4000) (r : Nat) (hr : r ≤ 10000) (hr1 : 1 ≤ r) (len : Nat) (hl : len ≤ 1000) (M : Nat) (hM : len ≤ 32 * M) (hM2 : M = 0 ∨ 32 * (M - 1) < len) :
    ∀ (m i fu : Nat), i + m = M → m < fu → mDerive_l1 n a0 a1 (r : Int) (len : Int) fu (outS a0 a1 r i) ((i : Int) + 1) = some (outS a0 a1 r M, len, none) := by
  intro m
  induction m with
  | zero =>
    intro i fu hi hf
    obtain rfl : i = M := by omega
    have ho := outS_len a0 a1 r i
    cases fu with
    | zero => omega
    | succ fu => rw [mDerive_l1, ite_f (by simp <;> omega), gd_pos (by omega), gd_pos (by omega), gd_pos (by omega), Int.toNat_natCast]
  | succ m ih =>
    intro i fu hi hf
    have ho := outS_len a0 a1 r i
    cases fu with
    | zero => omega
    | succ fu =>
      have hb : (((i : Int) + 1) = ((i + 1 : Nat) : Int)) := by omega
      rw [mDerive_l1, ite_t (by simp <;> omega), fl2, gd_pos (by decide), gd_pos (by decide), gd_pos (by simp), gd_pos (by simp; omega), hb, mMark_is (by omega) (by omega) (by simp; omega), Option.bind_some, gd_pos (by rw [hmac_len]; omega), gd_pos (okI64 (by omega) (by omega))]
      have h2 := mDerive_l2_is (n := n) (by omega) a0 a1 h0 r hr hr1 (len : Int) (outS a0 a1 r i) (by omega) (i + 1) (by omega) (hmac a0 (a1 ++ [0, 0, UInt8.ofInt (((i + 1 : Nat) : Int) / 2 ^ 8), UInt8.ofInt ((i + 1 : Nat) : Int)])) (hmac_len _ _) (mDerive_l1 n a0 a1 (r : Int) (len : Int) fu) (r - 1) 0 n (hmac a0 (a1 ++ [0, 0, UInt8.ofInt (((i + 1 : Nat) : Int) / 2 ^ 8), UInt8.ofInt ((i + 1 : Nat) : Int)]), hmac a0 (a1 ++ [0, 0, UInt8.ofInt (((i + 1 : Nat) : Int) / 2 ^ 8), UInt8.ofInt ((i + 1 : Nat) : Int)])) (by omega) (by omega) (hmac_len _ _)
      rw [show ((0 : Nat) : Int) = 0 from rfl] at h2
      rw [h2]
      exact ih (i + 1) fu (by omega) (by omega)
theorem mmay_is (n : Nat) (r : Int) : mmay n r = some (if r < 1 then some 1 else if 10000 < r then some 4 else none) := by
  unfold mmay
  by_cases h : r < 1
  · rw [ite_t (by simpa using h), if_pos h]
  · rw [ite_f (by simpa using h), if_neg h]
    by_cases h2 : 10000 < r
    · rw [ite_t (by simpa using h2), if_pos h2]
    · rw [ite_f (by simpa using h2), if_neg h2]
theorem mDerive_is {n : Nat} (hn : 100000 ≤ n) {a0 a1 : List UInt8} (h0 : a0.length ≤ 4000) (h1 : a1.length ≤ 4000) {r len : Nat} (hr1 : 1 ≤ r) (hr : r ≤ 10000) (hl : len ≤ 256) :
    mDerive n a0 a1 (r : Int) (len : Int) = some (outS a0 a1 r ((len + 31) / 32), len, none) := by
  unfold mDerive
  rw [ite_f (by simp <;> omega), ite_f (by simp <;> omega), mmay_is, Option.bind_some, if_neg (by omega), if_neg (by omega), ite_f (by rfl), ite_f (by simp <;> omega)]
  exact mDerive_l1_is hn a0 a1 h0 h1 r hr hr1 len (by omega) _ (by omega) (by omega) ((len + 31) / 32) 0 n (by omega) (by omega)
theorem mcut_is (n : Nat) (a : List UInt8) (k : Nat) : ∃ m, mcut n a (k : Int) = some (a, m) ∧ ((a.drop 0).take m).length ≤ k ∧ ((a.drop 0).take m).length = m := by
  unfold mcut
  by_cases h : (k : Int) < (a.length : Int)
  · rw [ite_t (by simpa using h), gd_pos (by omega), gd_pos (by omega)]
    exact ⟨k, by rw [Int.toNat_natCast], by simp; omega, by simp; omega⟩
  · rw [ite_f (by simpa using h)]
    exact ⟨a.length, rfl, by simp; omega, by simp⟩
end Go.Sx
end
section
set_option linter.unusedVariables false
set_option linter.unusedSimpArgs false
namespace Go.Proofs.YtamddohbpdbdmaaDoor
open Go.RowKit Go.Ch Go.Sx
def ofL (l : List UInt32) : Words := ⟨l.getD 0 0, l.getD 1 0, l.getD 2 0, l.getD 3 0, l.getD 4 0, l.getD 5 0, l.getD 6 0, l.getD 7 0⟩
theorem ofL_list {l : List UInt32} (h : l.length = 8) : (ofL l).list = l := by
  rw [lstE (0 : UInt32) h]; rfl
def pressL (ks vs : List UInt32) (bl : List UInt8) : List UInt32 := (pressOf ks (ofL vs) bl).list
theorem wds_av (v : Words) (ρ : Pls) : avR ρ (.g 8 (.w v.list)) (wds v) := ⟨v.list.map w32, csR_w.2 rfl, by simp [len8], rfl⟩
theorem av_w {ρ : Pls} {l : List UInt32} {n : Nat} {v : Value} (h : avR ρ (.g n (.w l)) v) : v = .agg (l.map w32).toArray := by
  obtain ⟨vs, h1, _, h3⟩ := h
  rw [h3, csR_w.1 h1]
theorem av_b {ρ : Pls} {l : List UInt8} {n : Nat} {v : Value} (h : avR ρ (.g n (.b l)) v) : v = .agg (l.map bU).toArray := by
  obtain ⟨vs, h1, _, h3⟩ := h
  rw [h3, csR_b.1 h1]
theorem sl_w {w : World} {e : TypeId} {l : List UInt32} {v : Value} {p : Pl} (h : InSl w e l.length (.w l) v p) : Sl w w.heap.size v (l.map w32) := h.sl (fun _ _ h => csR_w.1 h) (by simp)
end Go.Proofs.YtamddohbpdbdmaaDoor
end
section
set_option linter.unusedVariables false
set_option linter.unusedSimpArgs false
namespace Go.Proofs.YtamddohbpdbdmaaDoor
open Go.RowKit Go.Ch Go.Sx
def reftail_ct : Ct := fun args H => match args with
  | [x] => (match aI x with | some n => some ([0 ≤ n, n ≤ 281474976710656], .c (.wh H.length), [⟨.row, 5, 1, (tailOf n.toNat).length, .b (tailOf n.toNat)⟩]) | none => none)
  | _ => none
theorem reftail_h : FnOk Tryd.prog Tr 31 reftail_ct := by
  refine ⟨fun args H g av objs hF hg ρ w vals hG hp ha => ?_, _, Tryd.func31, by kernel_rfl, by kernel_rfl⟩
  unfold reftail_ct at hF
  split at hF
  · split at hF
    · rename_i x n hl
      simp only [Option.some.injEq, Prod.mk.injEq] at hF
      obtain ⟨rfl, rfl, rfl⟩ := hF
      obtain ⟨v, vals, rfl, k, ha⟩ := F2.inv ha
      obtain rfl := F2.inv0 ha
      obtain rfl := aI_ok hl k
      obtain ⟨h0, h1⟩ : 0 ≤ n ∧ n ≤ 281474976710656 := by simpa [allP] using hg
      have := reftail_c w n.toNat (by omega)
      rw [Int.toNat_of_nonneg h0] at this
      exact calls_mono this fun v w' ⟨hx, hv⟩ => ⟨hx, left_row hv (fun _ => csR_b.2 rfl) (by simp)⟩
    · cases hF
  · cases hF
def refpress_ct : Ct := fun args H => match args with
  | [x, y, z] => (match aW H x with | some ks => (match aGw 8 y with | some vs => (match aGb 64 z with | some bl => some ([ks.length = 64], .g 8 (.w (pressL ks vs bl)), []) | none => none) | none => none) | none => none)
  | _ => none
theorem refpress_h : FnOk Tryd.prog Tr 32 refpress_ct := by
  refine ⟨fun args H g av objs hF hg ρ w vals hG hp ha => ?_, _, Tryd.func32, by kernel_rfl, by kernel_rfl⟩
  unfold refpress_ct at hF
  split at hF
  · split at hF
    · rename_i x y z ks hks
      split at hF
      · rename_i vs hvs
        split at hF
        · rename_i bl hbl
          simp only [Option.some.injEq, Prod.mk.injEq] at hF
          obtain ⟨rfl, rfl, rfl⟩ := hF
          obtain ⟨v, vals, rfl, k, ha⟩ := F2.inv ha
          obtain ⟨v2, vals, rfl, k2, ha⟩ := F2.inv ha
          obtain ⟨v3, vals, rfl, k3, ha⟩ := F2.inv ha
          obtain rfl := F2.inv0 ha
          obtain ⟨p, hI⟩ := aW_ok hp hks k 28
          obtain ⟨a2, l2⟩ := aGw_ok hvs k2 ρ
          obtain ⟨a3, l3⟩ := aGb_ok hbl k3 ρ
          have hk : ks.length = 64 := by simpa [allP] using hg
          obtain rfl := av_w a2
          obtain rfl := av_b a3
          have := refpress_c w _ v ks (sl_w hI) hk (ofL vs) bl l3
          unfold wds b64 at this
          rw [ofL_list l2] at this
          exact calls_mono this fun v w' ⟨hx, hv⟩ => ⟨hx, left_val fun ρ => by rw [hv]; exact wds_av _ ρ⟩
        · cases hF
      · cases hF
    · cases hF
  · cases hF
end Go.Proofs.YtamddohbpdbdmaaDoor
end
section
set_option linter.unusedVariables false
set_option linter.unusedSimpArgs false
namespace Go.Proofs.YtamddohbpdbdmaaDoor
open Go.RowKit Go.Ch Go.Sx
def tabL_mq : List (TypeId × Ti) := [(3, ⟨.int .i64, 1, 8, true, some [.int .i64]⟩),
  (4, ⟨.bool, 1, 1, true, some [.bool]⟩),
  (27, ⟨.sl 28, 1, 24, false, some [.nils]⟩),
  (28, ⟨.int .u32, 1, 4, true, some [.int .u32]⟩),
  (29, ⟨.arr 8 28, 8, 32, true, some [.int .u32, .int .u32, .int .u32, .int .u32, .int .u32, .int .u32, .int .u32, .int .u32]⟩),
  (31, ⟨.st [(27, 0), (29, 1)], 9, 56, false, some [.nils, .int .u32, .int .u32, .int .u32, .int .u32, .int .u32, .int .u32, .int .u32, .int .u32]⟩),
  (58, ⟨.sl 61, 1, 24, false, some [.nils]⟩),
  (61, ⟨.int .u64, 1, 8, true, some [.int .u64]⟩),
  (69, ⟨.arr 4 61, 4, 32, true, some [.int .u64, .int .u64, .int .u64, .int .u64]⟩),
  (71, ⟨.arr 5 61, 5, 40, true, some [.int .u64, .int .u64, .int .u64, .int .u64, .int .u64]⟩)]
def tab_mq : Tab := fun t => (tabL_mq).lookup t
theorem tabE_mq : (tabL_mq.map fun p => tiOf Tryd.prog p.1) = tabL_mq.map fun p => some p.2 := by kernel_rfl
theorem tabO_mq : TabOk Tryd.prog tab_mq := tab_of tabE_mq
def rprimes_j1 (n : Nat) (a0 : Int) (y4_1 : UInt64) (k_l1 : (List UInt64) → UInt64 → Option (List UInt64)) (q3_5 : List UInt64) : Option (List UInt64) :=
  k_l1 q3_5 (y4_1 + (1 : UInt64))
def rprimes_l2 (n : Nat) (a0 : Int) (q3_3 : List UInt64) (y4_1 : UInt64) (k_l1 : (List UInt64) → UInt64 → Option (List UInt64)) : Nat → Bool → Int → Option (List UInt64)
  | 0, _, _ => none
  | fu_l2 + 1, p5_7, i6_7 =>
    bif (decide (i6_7 < ((q3_3.length : Nat) : Int))) then
      bif p5_7 then
        gd (0 ≤ i6_7) <|
        gd (i6_7 < ((q3_3.length : Nat) : Int)) <|
        gd ((q3_3.getD i6_7.toNat 0) ≠ 0) <|
        gd (okI .i64 (i6_7 + 1)) <|
        (rprimes_l2 n a0 q3_3 y4_1 k_l1 fu_l2) ((y4_1 % (q3_3.getD i6_7.toNat 0)) != 0) (i6_7 + 1)
      else
        gd (okI .i64 (i6_7 + 1)) <|
        (rprimes_l2 n a0 q3_3 y4_1 k_l1 fu_l2) false (i6_7 + 1)
    else
      bif p5_7 then
        gd (rmB (q3_3.length + 1) 8) <|
        rprimes_j1 n a0 y4_1 k_l1 (q3_3 ++ [y4_1])
      else
        rprimes_j1 n a0 y4_1 k_l1 q3_3
def rprimes_l1 (n : Nat) (a0 : Int) : Nat → List UInt64 → UInt64 → Option (List UInt64)
  | 0, _, _ => none
  | fu_l1 + 1, q3_3, y4_1 =>
    bif (decide (((q3_3.length : Nat) : Int) < a0)) then
      rprimes_l2 n a0 q3_3 y4_1 (rprimes_l1 n a0 fu_l1) n true 0
    else
      some q3_3
def rprimes (n : Nat) (a0 : Int) : Option (List UInt64) :=
  rprimes_l1 n a0 n [] 2
def rproduct (n : Nat) (a0 : UInt64) (a1 : UInt64) : Option (List UInt64) :=
  gd ((4294967296 : UInt64) ≠ 0) <|
  gd ((4294967296 : UInt64) ≠ 0) <|
  gd ((4294967296 : UInt64) ≠ 0) <|
  gd ((4294967296 : UInt64) ≠ 0) <|
  gd ((4294967296 : UInt64) ≠ 0) <|
  gd ((4294967296 : UInt64) ≠ 0) <|
  gd ((4294967296 : UInt64) ≠ 0) <|
  gd ((4294967296 : UInt64) ≠ 0) <|
  gd ((4294967296 : UInt64) ≠ 0) <|
  gd ((4294967296 : UInt64) ≠ 0) <|
  gd ((4294967296 : UInt64) ≠ 0) <|
  gd ((4294967296 : UInt64) ≠ 0) <|
  gd (0 ≤ (0 : Int)) <|
  gd ((0 : Int) < (4 : Int)) <|
  gd ((4294967296 : UInt64) ≠ 0) <|
  gd (0 ≤ (1 : Int)) <|
  gd ((1 : Int) < (4 : Int)) <|
  gd ((4294967296 : UInt64) ≠ 0) <|
  gd (0 ≤ (2 : Int)) <|
  gd ((2 : Int) < (4 : Int)) <|
  gd ((4294967296 : UInt64) ≠ 0) <|
  gd ((4294967296 : UInt64) ≠ 0) <|
  gd (0 ≤ (3 : Int)) <|
  gd ((3 : Int) < (4 : Int)) <|
  some (((((List.replicate 4 0).set 0 (((a0 % (4294967296 : UInt64)) * (a1 % (4294967296 : UInt64))) % (4294967296 : UInt64))).set 1 ((((((a0 % (4294967296 : UInt64)) * (a1 / (4294967296 : UInt64))) % (4294967296 : UInt64)) + (((a0 / (4294967296 : UInt64)) * (a1 % (4294967296 : UInt64))) % (4294967296 : UInt64))) + (((a0 % (4294967296 : UInt64)) * (a1 % (4294967296 : UInt64))) / (4294967296 : UInt64))) % (4294967296 : UInt64))).set 2 (((((((a0 % (4294967296 : UInt64)) * (a1 / (4294967296 : UInt64))) / (4294967296 : UInt64)) + (((a0 / (4294967296 : UInt64)) * (a1 % (4294967296 : UInt64))) / (4294967296 : UInt64))) + (((a0 / (4294967296 : UInt64)) * (a1 / (4294967296 : UInt64))) % (4294967296 : UInt64))) + ((((((a0 % (4294967296 : UInt64)) * (a1 / (4294967296 : UInt64))) % (4294967296 : UInt64)) + (((a0 / (4294967296 : UInt64)) * (a1 % (4294967296 : UInt64))) % (4294967296 : UInt64))) + (((a0 % (4294967296 : UInt64)) * (a1 % (4294967296 : UInt64))) / (4294967296 : UInt64))) / (4294967296 : UInt64))) % (4294967296 : UInt64))).set 3 ((((a0 / (4294967296 : UInt64)) * (a1 / (4294967296 : UInt64))) / (4294967296 : UInt64)) + (((((((a0 % (4294967296 : UInt64)) * (a1 / (4294967296 : UInt64))) / (4294967296 : UInt64)) + (((a0 / (4294967296 : UInt64)) * (a1 % (4294967296 : UInt64))) / (4294967296 : UInt64))) + (((a0 / (4294967296 : UInt64)) * (a1 / (4294967296 : UInt64))) % (4294967296 : UInt64))) + ((((((a0 % (4294967296 : UInt64)) * (a1 / (4294967296 : UInt64))) % (4294967296 : UInt64)) + (((a0 / (4294967296 : UInt64)) * (a1 % (4294967296 : UInt64))) % (4294967296 : UInt64))) + (((a0 % (4294967296 : UInt64)) * (a1 % (4294967296 : UInt64))) / (4294967296 : UInt64))) / (4294967296 : UInt64))) / (4294967296 : UInt64))))
def rsquare (n : Nat) (a0 : UInt64) (a1 : UInt64) : Option (Bool) :=
  (rproduct n a0 a0).bind fun r10 =>
  gd (0 ≤ (3 : Int)) <|
  gd ((3 : Int) < (4 : Int)) <|
  gd (0 ≤ (2 : Int)) <|
  gd ((2 : Int) < (4 : Int)) <|
  gd (0 ≤ (1 : Int)) <|
  gd ((1 : Int) < (4 : Int)) <|
  gd (0 ≤ (0 : Int)) <|
  gd ((0 : Int) < (4 : Int)) <|
  bif (decide ((((r10.getD 3 0) * (4294967296 : UInt64)) + (r10.getD 2 0)) < a1)) then
    some true
  else
    bif ((((r10.getD 3 0) * (4294967296 : UInt64)) + (r10.getD 2 0)) == a1) then
      some ((((r10.getD 1 0) * (4294967296 : UInt64)) + (r10.getD 0 0)) == 0)
    else
      some false
def rcube_j2 (n : Nat) (a0 : UInt64) (a1 : UInt64) (r17 : List UInt64) (q6_1 : List UInt64) (i10_1 : Int) (k_l1 : (List UInt64) → UInt64 → Int → Option (Bool)) (y9_9 : UInt64) (y11_7 : UInt64) : Option (Bool) :=
  gd ((4294967296 : UInt64) ≠ 0) <|
  gd (0 ≤ i10_1) <|
  gd (i10_1 < (5 : Int)) <|
  gd ((4294967296 : UInt64) ≠ 0) <|
  gd (okI .i64 (i10_1 + 1)) <|
  k_l1 (q6_1.set i10_1.toNat (y11_7 % (4294967296 : UInt64))) (y9_9 + (y11_7 / (4294967296 : UInt64))) (i10_1 + 1)
def rcube_j1 (n : Nat) (a0 : UInt64) (a1 : UInt64) (r17 : List UInt64) (q6_1 : List UInt64) (i10_1 : Int) (k_l1 : (List UInt64) → UInt64 → Int → Option (Bool)) (y9_8 : UInt64) (y11_6 : UInt64) : Option (Bool) :=
  bif (decide ((0 : Int) < i10_1)) then
    gd (okI .i64 (i10_1 - 1)) <|
    gd (0 ≤ (i10_1 - 1)) <|
    gd ((i10_1 - 1) < (4 : Int)) <|
    gd ((4294967296 : UInt64) ≠ 0) <|
    gd ((4294967296 : UInt64) ≠ 0) <|
    rcube_j2 n a0 a1 r17 q6_1 i10_1 k_l1 (y9_8 + (((r17.getD ((i10_1 - 1).toNat) 0) * (a0 / (4294967296 : UInt64))) / (4294967296 : UInt64))) (y11_6 + (((r17.getD ((i10_1 - 1).toNat) 0) * (a0 / (4294967296 : UInt64))) % (4294967296 : UInt64)))
  else
    rcube_j2 n a0 a1 r17 q6_1 i10_1 k_l1 y9_8 y11_6
def rcube_l1 (n : Nat) (a0 : UInt64) (a1 : UInt64) (r17 : List UInt64) : Nat → List UInt64 → UInt64 → Int → Option (Bool)
  | 0, _, _, _ => none
  | fu_l1 + 1, q6_1, y9_5, i10_1 =>
    bif (decide (i10_1 < (5 : Int))) then
      bif (decide (i10_1 < (4 : Int))) then
        gd (0 ≤ i10_1) <|
        gd (i10_1 < (4 : Int)) <|
        gd ((4294967296 : UInt64) ≠ 0) <|
        gd ((4294967296 : UInt64) ≠ 0) <|
        rcube_j1 n a0 a1 r17 q6_1 i10_1 (rcube_l1 n a0 a1 r17 fu_l1) ((0 : UInt64) + (((r17.getD i10_1.toNat 0) * (a0 % (4294967296 : UInt64))) / (4294967296 : UInt64))) (y9_5 + (((r17.getD i10_1.toNat 0) * (a0 % (4294967296 : UInt64))) % (4294967296 : UInt64)))
      else
        rcube_j1 n a0 a1 r17 q6_1 i10_1 (rcube_l1 n a0 a1 r17 fu_l1) 0 y9_5
    else
      gd (0 ≤ (4 : Int)) <|
      gd ((4 : Int) < (5 : Int)) <|
      gd (0 ≤ (3 : Int)) <|
      gd ((3 : Int) < (5 : Int)) <|
      bif (decide ((((q6_1.getD 4 0) * (4294967296 : UInt64)) + (q6_1.getD 3 0)) < a1)) then
        some true
      else
        bif ((((q6_1.getD 4 0) * (4294967296 : UInt64)) + (q6_1.getD 3 0)) == a1) then
          gd (0 ≤ (0 : Int)) <|
          gd ((0 : Int) < (5 : Int)) <|
          bif ((q6_1.getD 0 0) == 0) then
            gd (0 ≤ (1 : Int)) <|
            gd ((1 : Int) < (5 : Int)) <|
            bif ((q6_1.getD 1 0) == 0) then
              gd (0 ≤ (2 : Int)) <|
              gd ((2 : Int) < (5 : Int)) <|
              some ((q6_1.getD 2 0) == 0)
            else
              some false
          else
            some false
        else
          some false
def rcube (n : Nat) (a0 : UInt64) (a1 : UInt64) : Option (Bool) :=
  (rproduct n a0 a0).bind fun r17 =>
  gd ((4294967296 : UInt64) ≠ 0) <|
  gd ((4294967296 : UInt64) ≠ 0) <|
  rcube_l1 n a0 a1 r17 n (List.replicate 5 0) 0 0
def rfraction_j1 (n : Nat) (a0 : UInt64) (a1 : Bool) (i6_1 : Int) (k_l1 : UInt64 → Int → Option (UInt32)) (y5_7 : UInt64) : Option (UInt32) :=
  gd (okI .i64 (i6_1 + 1)) <|
  k_l1 y5_7 (i6_1 + 1)
def rfraction_j2 (n : Nat) (a0 : UInt64) (a1 : Bool) (y5_5 : UInt64) (i6_1 : Int) (k_l1 : UInt64 → Int → Option (UInt32)) (p8_11 : Bool) : Option (UInt32) :=
  bif p8_11 then
    rfraction_j1 n a0 a1 i6_1 k_l1 (y5_5 + (shl64 1 (36 - i6_1)))
  else
    rfraction_j1 n a0 a1 i6_1 k_l1 y5_5
def rfraction_l1 (n : Nat) (a0 : UInt64) (a1 : Bool) : Nat → UInt64 → Int → Option (UInt32)
  | 0, _, _ => none
  | fu_l1 + 1, y5_5, i6_1 =>
    bif (decide (i6_1 < (37 : Int))) then
      gd (okI .i64 (36 - i6_1)) <|
      gd (0 ≤ (36 - i6_1)) <|
      bif a1 then
        (rcube n (y5_5 + (shl64 1 (36 - i6_1))) a0).bind fun r21_2 =>
        rfraction_j2 n a0 a1 y5_5 i6_1 (rfraction_l1 n a0 a1 fu_l1) r21_2
      else
        (rsquare n (y5_5 + (shl64 1 (36 - i6_1))) a0).bind fun r24_2 =>
        rfraction_j2 n a0 a1 y5_5 i6_1 (rfraction_l1 n a0 a1 fu_l1) r24_2
    else
      gd ((4294967296 : UInt64) ≠ 0) <|
      some ((y5_5 % (4294967296 : UInt64)).toUInt32)
def rfraction (n : Nat) (a0 : UInt64) (a1 : Bool) : Option (UInt32) :=
  rfraction_l1 n a0 a1 n 0 0
def rconstants_l1 (n : Nat) (r4 : List UInt64) : Nat → List UInt32 → Int → Option (List UInt32)
  | 0, _, _ => none
  | fu_l1 + 1, w2_1, i3_1 =>
    bif (decide (i3_1 < (64 : Int))) then
      gd (0 ≤ i3_1) <|
      gd (i3_1 < ((r4.length : Nat) : Int)) <|
      (rfraction n (r4.getD i3_1.toNat 0) true).bind fun r14_2 =>
      gd (rmB (w2_1.length + 1) 4) <|
      gd (okI .i64 (i3_1 + 1)) <|
      (rconstants_l1 n r4 fu_l1) (w2_1 ++ [r14_2]) (i3_1 + 1)
    else
      some w2_1
def rconstants (n : Nat) : Option (List UInt32) :=
  (rprimes n 64).bind fun r4 =>
  rconstants_l1 n r4 n [] 0
def refbegin_l1 (n : Nat) (r4 : List UInt64) : Nat → List UInt32 → Int → Option (List UInt32)
  | 0, _, _ => none
  | fu_l1 + 1, w2_1, i3_1 =>
    bif (decide (i3_1 < (8 : Int))) then
      gd (0 ≤ i3_1) <|
      gd (i3_1 < ((r4.length : Nat) : Int)) <|
      (rfraction n (r4.getD i3_1.toNat 0) false).bind fun r14_2 =>
      gd (0 ≤ i3_1) <|
      gd (i3_1 < (8 : Int)) <|
      gd (okI .i64 (i3_1 + 1)) <|
      (refbegin_l1 n r4 fu_l1) (w2_1.set i3_1.toNat r14_2) (i3_1 + 1)
    else
      some w2_1
def refbegin (n : Nat) : Option (List UInt32) :=
  (rprimes n 8).bind fun r4 =>
  refbegin_l1 n r4 n (List.replicate 8 0) 0
def made (n : Nat) : Option (List UInt32 × UInt32 × UInt32 × UInt32 × UInt32 × UInt32 × UInt32 × UInt32 × UInt32) :=
  (rconstants n).bind fun r1 =>
  (refbegin n).bind fun r2 =>
  some (r1, (r2.getD 0 0), (r2.getD 1 0), (r2.getD 2 0), (r2.getD 3 0), (r2.getD 4 0), (r2.getD 5 0), (r2.getD 6 0), (r2.getD 7 0))
def rprimes_j1_E (a0 : Int) (y4_1 : UInt64) (q3_5 : List UInt64) : S := ⟨[(0, .c (.s (.k .i64 a0))), (3, .c (.wh 0)), (4, .c (.s (.u64 y4_1)))], [], [⟨.row, 61, 1, q3_5.length, .q q3_5⟩]⟩
def rprimes_j1_P (n : Nat) (a0 : Int) (y4_1 : UInt64) (k_l1 : (List UInt64) → UInt64 → Option (List UInt64)) (r : List UInt64) : S → Prop := fun s => ∃ (q3_5 : List UInt64), s = rprimes_j1_E a0 y4_1 q3_5 ∧ rprimes_j1 n a0 y4_1 k_l1 q3_5 = some r
theorem rprimes_j1_M {n : Nat} {a0 : Int} {y4_1 : UInt64} {k_l1 : (List UInt64) → UInt64 → Option (List UInt64)} {q3_5 : List UInt64} {r : List UInt64} (h : rprimes_j1 n a0 y4_1 k_l1 q3_5 = some r) : rprimes_j1_P n a0 y4_1 k_l1 r (rprimes_j1_E a0 y4_1 q3_5) := ⟨q3_5, rfl, h⟩
def rprimes_l2_E (a0 : Int) (q3_3 : List UInt64) (y4_1 : UInt64) (p5_7 : Bool) (i6_7 : Int) : S := ⟨[(0, .c (.s (.k .i64 a0))), (3, .c (.wh 0)), (4, .c (.s (.u64 y4_1))), (5, .c (.s (.b p5_7))), (6, .c (.s (.k .i64 i6_7)))], [], [⟨.row, 61, 1, q3_3.length, .q q3_3⟩]⟩
def rprimes_l2_P (n : Nat) (a0 : Int) (q3_3 : List UInt64) (y4_1 : UInt64) (k_l1 : (List UInt64) → UInt64 → Option (List UInt64)) (r : List UInt64) (fu : Nat) : S → Prop := fun s => ∃ (p5_7 : Bool), ∃ (i6_7 : Int), s = rprimes_l2_E a0 q3_3 y4_1 p5_7 i6_7 ∧ rprimes_l2 n a0 q3_3 y4_1 k_l1 fu p5_7 i6_7 = some r
theorem rprimes_l2_M {n : Nat} {a0 : Int} {q3_3 : List UInt64} {y4_1 : UInt64} {k_l1 : (List UInt64) → UInt64 → Option (List UInt64)} {p5_7 : Bool} {i6_7 : Int} {r : List UInt64} {fu : Nat} (h : rprimes_l2 n a0 q3_3 y4_1 k_l1 fu p5_7 i6_7 = some r) : rprimes_l2_P n a0 q3_3 y4_1 k_l1 r fu (rprimes_l2_E a0 q3_3 y4_1 p5_7 i6_7) := ⟨p5_7, i6_7, rfl, h⟩
def rprimes_l1_E (a0 : Int) (q3_3 : List UInt64) (y4_1 : UInt64) : S := ⟨[(0, .c (.s (.k .i64 a0))), (3, .c (.wh 0)), (4, .c (.s (.u64 y4_1)))], [], [⟨.row, 61, 1, q3_3.length, .q q3_3⟩]⟩
def rprimes_l1_P (n : Nat) (a0 : Int) (r : List UInt64) (fu : Nat) : S → Prop := fun s => ∃ (q3_3 : List UInt64), ∃ (y4_1 : UInt64), s = rprimes_l1_E a0 q3_3 y4_1 ∧ rprimes_l1 n a0 fu q3_3 y4_1 = some r
theorem rprimes_l1_M {n : Nat} {a0 : Int} {q3_3 : List UInt64} {y4_1 : UInt64} {r : List UInt64} {fu : Nat} (h : rprimes_l1 n a0 fu q3_3 y4_1 = some r) : rprimes_l1_P n a0 r fu (rprimes_l1_E a0 q3_3 y4_1) := ⟨q3_3, y4_1, rfl, h⟩
def rprimes_R (r : List UInt64) : S := ⟨[(2, .c (.wh 0))], [], [⟨.row, 61, 1, r.length, .q r⟩]⟩
def rprimes_ct (n : Nat) (r : List UInt64) : Ct := fun args H => match args with
  | [x0] => (match aI x0 with | some l0 => some ([rprimes n l0 = some r], shA H.length (.c (.wh 0)), shH H.length [⟨.row, 61, 1, r.length, .q r⟩]) | none => none)
  | _ => none
theorem rprimes_ok (n : Nat) (r : List UInt64) : FnOk Tryd.prog Tr 33 (rprimes_ct n r) := by
  refine ⟨fun args H g av objs hF hg ρ w vals hG hp ha => ?_, _, Tryd.func33, by kernel_rfl, by kernel_rfl⟩
  obtain ⟨x0, rfl⟩ : ∃ x0, args = [x0] := by
    unfold rprimes_ct at hF; split at hF
    · exact ⟨_, rfl⟩
    · cases hF
  cases e0 : aI x0 with
  | none => simp only [rprimes_ct, e0, reduceCtorEq] at hF
  | some l0 =>
  simp only [rprimes_ct, e0, Option.some.injEq, Prod.mk.injEq] at hF
  obtain ⟨rfl, rfl, rfl⟩ := hF
  obtain ⟨v0, vals, rfl, k0, ha⟩ := F2.inv ha
  obtain rfl := F2.inv0 ha
  have hI : ∀ w', Kp (noB (fun _ => undef)) w w' → Tr w' := fun _ hk => Tr.keep hk.below hG
  have h : rprimes n l0 = some r := hg
  have s0 := aI_ok e0 (k0)
  have hR0 := rel0 (gv := (fun _ => undef)) (n := 35) (w := w) (args := [.c (.s (.k .i64 l0))]) (H := []) (gl := []) (hpL (ps := []) F2.nil) (allRo_ok rfl) (F2.cons s0 F2.nil) GlR.nil (by simp)
  clear ha hp hg k0 e0
  refine calls_W Tryd.func33 rfl rfl hR0 (Q := fun e s => (e = .ret ∨ e = .normal) ∧ s = rprimes_R r) ?_ ?_
  · clear hR0
    unfold rprimes at h
    have hT := tabO_mq
    refine W_seq ?_
    refine W_reg hT ftL_nil [] [] [0] [] (s' := ⟨[(0, .c (.s (.k .i64 l0)))], [], []⟩) (by kernel_rfl) allP_nil ?_
    refine W_seq ?_
    refine W_reg hT ftL_nil [] [] [0, 3] [] (s' := ⟨[(0, .c (.s (.k .i64 l0))), (3, .c (.nils))], [], []⟩) (by kernel_rfl) allP_nil ?_
    refine W_seq ?_
    refine W_seq ?_
    refine W_reg hT ftL_nil [] [] [0, 3, 4] [] (s' := ⟨[(0, .c (.s (.k .i64 l0))), (3, .c (.nils)), (4, .c (.s (.u64 2)))], [], []⟩) (by kernel_rfl) allP_nil ?_
    refine W_block ?_
    refine W_co [.nil 3 61 1 (.q [])] [0, 3, 4] [0] (s' := (rprimes_l1_E l0 [] 2)) (by kernel_rfl) (W_lp ((rprimes_l1_P n l0 r)) n (rprimes_l1_M h) ?_)
    rintro fu_l1 _ ⟨q3_3, y4_1, rfl, h⟩
    cases fu_l1 with
    | zero => cases h
    | succ fu_l1 =>
      refine ⟨fu_l1, rfl, ?_⟩
      rw [rprimes_l1] at h
      refine W_seq ?_
      refine W_seq ?_
      refine W_reg hT ftL_nil [] [] [0, 3, 4, 10] [0] (s' := ⟨[(0, .c (.s (.k .i64 l0))), (3, .c (.wh 0)), (4, .c (.s (.u64 y4_1))), (10, .c (.s (.b (decide (((q3_3.length : Nat) : Int) < l0)))))], [], [⟨.row, 61, 1, q3_3.length, .q q3_3⟩]⟩) (by kernel_rfl) allP_nil ?_
      refine W_cond (b := (decide (((q3_3.length : Nat) : Int) < l0))) (by kernel_rfl) (fun g10 => ?_) (fun g10 => ?_)
      · replace h := bif_t h g10
        refine W_co [] [0, 3, 4] [0] (s' := ⟨[(0, .c (.s (.k .i64 l0))), (3, .c (.wh 0)), (4, .c (.s (.u64 y4_1)))], [], [⟨.row, 61, 1, q3_3.length, .q q3_3⟩]⟩) (by kernel_rfl) (W_skip ?_)
        refine W_join (rprimes_j1_P n l0 y4_1 (rprimes_l1 n l0 fu_l1) r) ?_ ?_
        · rintro _ ⟨q3_5, rfl, h⟩
          unfold rprimes_j1 at h
          refine W_reg hT ftL_nil [] [] [0, 3, 4] [0] (s' := (rprimes_l1_E l0 q3_5 (y4_1 + (1 : UInt64)))) (by kernel_rfl) allP_nil ?_
          exact rprimes_l1_M h
        · refine W_block ?_
          refine W_seq ?_
          refine W_reg hT ftL_nil [] [] [0, 3, 4, 5] [0] (s' := ⟨[(0, .c (.s (.k .i64 l0))), (3, .c (.wh 0)), (4, .c (.s (.u64 y4_1))), (5, .c (.s (.b true)))], [], [⟨.row, 61, 1, q3_3.length, .q q3_3⟩]⟩) (by kernel_rfl) allP_nil ?_
          refine W_seq ?_
          refine W_seq ?_
          refine W_reg hT ftL_nil [] [] [0, 3, 4, 5, 6] [0] (s' := ⟨[(0, .c (.s (.k .i64 l0))), (3, .c (.wh 0)), (4, .c (.s (.u64 y4_1))), (5, .c (.s (.b true))), (6, .c (.s (.k .i64 0)))], [], [⟨.row, 61, 1, q3_3.length, .q q3_3⟩]⟩) (by kernel_rfl) allP_nil ?_
          refine W_block ?_
          refine W_co [] [0, 3, 4, 5, 6] [0] (s' := (rprimes_l2_E l0 q3_3 y4_1 true 0)) (by kernel_rfl) (W_lp ((rprimes_l2_P n l0 q3_3 y4_1 (rprimes_l1 n l0 fu_l1) r)) n (rprimes_l2_M h) ?_)
          rintro fu_l2 _ ⟨p5_7, i6_7, rfl, h⟩
          cases fu_l2 with
          | zero => cases h
          | succ fu_l2 =>
            refine ⟨fu_l2, rfl, ?_⟩
            rw [rprimes_l2] at h
            refine W_seq ?_
            refine W_seq ?_
            refine W_reg hT ftL_nil [] [] [0, 3, 4, 5, 6, 16] [0] (s' := ⟨[(0, .c (.s (.k .i64 l0))), (3, .c (.wh 0)), (4, .c (.s (.u64 y4_1))), (5, .c (.s (.b p5_7))), (6, .c (.s (.k .i64 i6_7))), (16, .c (.s (.b (decide (i6_7 < ((q3_3.length : Nat) : Int))))))], [], [⟨.row, 61, 1, q3_3.length, .q q3_3⟩]⟩) (by kernel_rfl) allP_nil ?_
            refine W_cond (b := (decide (i6_7 < ((q3_3.length : Nat) : Int)))) (by kernel_rfl) (fun g9 => ?_) (fun g9 => ?_)
            · replace h := bif_t h g9
              refine W_co [] [0, 3, 4, 5, 6] [0] (s' := ⟨[(0, .c (.s (.k .i64 l0))), (3, .c (.wh 0)), (4, .c (.s (.u64 y4_1))), (5, .c (.s (.b p5_7))), (6, .c (.s (.k .i64 i6_7)))], [], [⟨.row, 61, 1, q3_3.length, .q q3_3⟩]⟩) (by kernel_rfl) (W_skip ?_)
              refine W_seq ?_
              refine W_block ?_
              rcases Bool.eq_false_or_eq_true p5_7 with g1 | g1
              · replace h := bif_t h g1
                obtain ⟨g2, h⟩ := gd_some h
                obtain ⟨g3, h⟩ := gd_some h
                obtain ⟨g4, h⟩ := gd_some h
                refine W_reg hT ftL_nil [(1, true)] [] [0, 3, 4, 5, 6] [0] (s' := ⟨[(0, .c (.s (.k .i64 l0))), (3, .c (.wh 0)), (4, .c (.s (.u64 y4_1))), (5, .c (.s (.b ((y4_1 % (q3_3.getD i6_7.toNat 0)) != 0)))), (6, .c (.s (.k .i64 i6_7)))], [], [⟨.row, 61, 1, q3_3.length, .q q3_3⟩]⟩) (by kernel_rfl) (allP_cons.2 ⟨g1, (allP_cons.2 ⟨g2, (allP_cons.2 ⟨g3, (allP_cons.2 ⟨g4, allP_nil⟩)⟩)⟩)⟩) ?_
                obtain ⟨g5, h⟩ := gd_some h
                refine W_reg hT ftL_nil [] [] [0, 3, 4, 5, 6] [0] (s' := (rprimes_l2_E l0 q3_3 y4_1 ((y4_1 % (q3_3.getD i6_7.toNat 0)) != 0) (i6_7 + 1))) (by kernel_rfl) (allP_cons.2 ⟨g5, allP_nil⟩) ?_
                exact rprimes_l2_M h
              · replace h := bif_f h g1
                refine W_reg hT ftL_nil [(1, false)] [] [0, 3, 4, 5, 6] [0] (s' := ⟨[(0, .c (.s (.k .i64 l0))), (3, .c (.wh 0)), (4, .c (.s (.u64 y4_1))), (5, .c (.s (.b false))), (6, .c (.s (.k .i64 i6_7)))], [], [⟨.row, 61, 1, q3_3.length, .q q3_3⟩]⟩) (by kernel_rfl) (allP_cons.2 ⟨g1, allP_nil⟩) ?_
                obtain ⟨g6, h⟩ := gd_some h
                refine W_reg hT ftL_nil [] [] [0, 3, 4, 5, 6] [0] (s' := (rprimes_l2_E l0 q3_3 y4_1 false (i6_7 + 1))) (by kernel_rfl) (allP_cons.2 ⟨g6, allP_nil⟩) ?_
                exact rprimes_l2_M h
            · replace h := bif_f h g9
              refine W_co [] [0, 3, 4, 5] [0] (s' := ⟨[(0, .c (.s (.k .i64 l0))), (3, .c (.wh 0)), (4, .c (.s (.u64 y4_1))), (5, .c (.s (.b p5_7)))], [], [⟨.row, 61, 1, q3_3.length, .q q3_3⟩]⟩) (by kernel_rfl) (W_exit ?_)
              refine W_seq ?_
              refine W_reg hT ftL_nil [] [] [0, 3, 4, 29] [0] (s' := ⟨[(0, .c (.s (.k .i64 l0))), (3, .c (.wh 0)), (4, .c (.s (.u64 y4_1))), (29, .c (.s (.b p5_7)))], [], [⟨.row, 61, 1, q3_3.length, .q q3_3⟩]⟩) (by kernel_rfl) allP_nil ?_
              refine W_cond (b := p5_7) (by kernel_rfl) (fun g8 => ?_) (fun g8 => ?_)
              · replace h := bif_t h g8
                obtain ⟨g7, h⟩ := gd_some h
                refine W_reg hT ftL_nil [] [] [0, 3, 4] [2] (s' := (rprimes_j1_E l0 y4_1 (q3_3 ++ [y4_1]))) (by kernel_rfl) (allP_cons.2 ⟨g7, allP_nil⟩) ?_
                exact rprimes_j1_M h
              · replace h := bif_f h g8
                refine W_co [] [0, 3, 4] [0] (s' := (rprimes_j1_E l0 y4_1 q3_3)) (by kernel_rfl) (W_skip ?_)
                exact rprimes_j1_M h
      · replace h := bif_f h g10
        refine W_co [] [3] [0] (s' := ⟨[(3, .c (.wh 0))], [], [⟨.row, 61, 1, q3_3.length, .q q3_3⟩]⟩) (by kernel_rfl) (W_exit ?_)
        refine W_seq ?_
        refine W_reg hT ftL_nil [] [] [2] [0] (s' := ⟨[(2, .c (.wh 0))], [], [⟨.row, 61, 1, q3_3.length, .q q3_3⟩]⟩) (by kernel_rfl) allP_nil ?_
        refine W_co [] [2] [0] (s' := (rprimes_R q3_3)) (by kernel_rfl) (W_ret ?_)
        exact ⟨.inl rfl, by cases h; rfl⟩
  · rintro e s' ⟨he, rfl⟩
    refine ⟨he, fun a' w' hr => ?_⟩
    exact retS_ok tabO_mq hr (rs := [.tmp 2]) rfl (objs := [0]) (by kernel_rfl)
def rproduct_R (r : List UInt64) : S := ⟨[(4, .c (.pt 0 0))], [], [⟨.blk, 69, 1, 4, .q r⟩]⟩
def rproduct_ct (n : Nat) (r : List UInt64) : Ct := fun args H => match args with
  | [x0, x1] => (match aU64 x0 with | some l0 => (match aU64 x1 with | some l1 => some ([rproduct n l0 l1 = some r], shA H.length (.g 4 (.q r)), shH H.length []) | none => none) | none => none)
  | _ => none
theorem rproduct_ok (n : Nat) (r : List UInt64) : FnOk Tryd.prog Tr 45 (rproduct_ct n r) := by
  refine ⟨fun args H g av objs hF hg ρ w vals hG hp ha => ?_, _, Tryd.func45, by kernel_rfl, by kernel_rfl⟩
  obtain ⟨x0, x1, rfl⟩ : ∃ x0 x1, args = [x0, x1] := by
    unfold rproduct_ct at hF; split at hF
    · exact ⟨_, _, rfl⟩
    · cases hF
  cases e0 : aU64 x0 with
  | none => simp only [rproduct_ct, e0, reduceCtorEq] at hF
  | some l0 =>
  cases e1 : aU64 x1 with
  | none => simp only [rproduct_ct, e0, e1, reduceCtorEq] at hF
  | some l1 =>
  simp only [rproduct_ct, e0, e1, Option.some.injEq, Prod.mk.injEq] at hF
  obtain ⟨rfl, rfl, rfl⟩ := hF
  obtain ⟨v0, vals, rfl, k0, ha⟩ := F2.inv ha
  obtain ⟨v1, vals, rfl, k1, ha⟩ := F2.inv ha
  obtain rfl := F2.inv0 ha
  have hI : ∀ w', Kp (noB (fun _ => undef)) w w' → Tr w' := fun _ hk => Tr.keep hk.below hG
  have h : rproduct n l0 l1 = some r := hg
  have s0 := aU64_ok e0 (k0)
  have s1 := aU64_ok e1 (k1)
  have hR0 := rel0 (gv := (fun _ => undef)) (n := 71) (w := w) (args := [.c (.s (.u64 l0)), .c (.s (.u64 l1))]) (H := []) (gl := []) (hpL (ps := []) F2.nil) (allRo_ok rfl) (F2.cons s0 (F2.cons s1 F2.nil)) GlR.nil (by simp)
  clear ha hp hg k0 k1 e0 e1
  refine calls_W Tryd.func45 rfl rfl hR0 (Q := fun e s => (e = .ret ∨ e = .normal) ∧ s = rproduct_R r) ?_ ?_
  · clear hR0
    unfold rproduct at h
    have hT := tabO_mq
    refine W_seq ?_
    refine W_reg hT ftL_nil [] [] [0, 1, 4] [0] (s' := ⟨[(0, .c (.s (.u64 l0))), (1, .c (.s (.u64 l1))), (4, .c (.pt 0 0))], [], [⟨.blk, 69, 1, 4, .q (List.replicate 4 0)⟩]⟩) (by kernel_rfl) allP_nil ?_
    refine W_seq ?_
    obtain ⟨g1, h⟩ := gd_some h
    obtain ⟨g2, h⟩ := gd_some h
    obtain ⟨g3, h⟩ := gd_some h
    obtain ⟨g4, h⟩ := gd_some h
    refine W_reg hT ftL_nil [] [] [4, 5, 6, 7, 8] [0] (s' := ⟨[(4, .c (.pt 0 0)), (5, .c (.s (.u64 (l0 % (4294967296 : UInt64))))), (6, .c (.s (.u64 (l0 / (4294967296 : UInt64))))), (7, .c (.s (.u64 (l1 % (4294967296 : UInt64))))), (8, .c (.s (.u64 (l1 / (4294967296 : UInt64)))))], [], [⟨.blk, 69, 1, 4, .q (List.replicate 4 0)⟩]⟩) (by kernel_rfl) (allP_cons.2 ⟨g1, (allP_cons.2 ⟨g2, (allP_cons.2 ⟨g3, (allP_cons.2 ⟨g4, allP_nil⟩)⟩)⟩)⟩) ?_
    refine W_seq ?_
    refine W_reg hT ftL_nil [] [] [4, 5, 6, 7, 8, 9] [0, 1] (s' := ⟨[(4, .c (.pt 0 0)), (5, .c (.s (.u64 (l0 % (4294967296 : UInt64))))), (6, .c (.s (.u64 (l0 / (4294967296 : UInt64))))), (7, .c (.s (.u64 (l1 % (4294967296 : UInt64))))), (8, .c (.s (.u64 (l1 / (4294967296 : UInt64))))), (9, .c (.pt 1 0))], [], [⟨.blk, 69, 1, 4, .q (List.replicate 4 0)⟩, ⟨.blk, 69, 1, 4, .q (List.replicate 4 0)⟩]⟩) (by kernel_rfl) allP_nil ?_
    refine W_seq ?_
    refine W_reg hT ftL_nil [] [] [4, 5, 6, 7, 8, 9, 10] [0, 1] (s' := ⟨[(4, .c (.pt 0 0)), (5, .c (.s (.u64 (l0 % (4294967296 : UInt64))))), (6, .c (.s (.u64 (l0 / (4294967296 : UInt64))))), (7, .c (.s (.u64 (l1 % (4294967296 : UInt64))))), (8, .c (.s (.u64 (l1 / (4294967296 : UInt64))))), (9, .c (.pt 1 0)), (10, .c (.s (.u64 ((l0 % (4294967296 : UInt64)) * (l1 % (4294967296 : UInt64))))))], [], [⟨.blk, 69, 1, 4, .q (List.replicate 4 0)⟩, ⟨.blk, 69, 1, 4, .q (List.replicate 4 0)⟩]⟩) (by kernel_rfl) allP_nil ?_
    refine W_seq ?_
    obtain ⟨g5, h⟩ := gd_some h
    obtain ⟨g6, h⟩ := gd_some h
    obtain ⟨g7, h⟩ := gd_some h
    refine W_reg hT ftL_nil [] [] [4, 5, 6, 7, 8, 9, 10, 11] [0, 1] (s' := ⟨[(4, .c (.pt 0 0)), (5, .c (.s (.u64 (l0 % (4294967296 : UInt64))))), (6, .c (.s (.u64 (l0 / (4294967296 : UInt64))))), (7, .c (.s (.u64 (l1 % (4294967296 : UInt64))))), (8, .c (.s (.u64 (l1 / (4294967296 : UInt64))))), (9, .c (.pt 1 0)), (10, .c (.s (.u64 ((l0 % (4294967296 : UInt64)) * (l1 % (4294967296 : UInt64)))))), (11, .c (.s (.u64 (((((l0 % (4294967296 : UInt64)) * (l1 / (4294967296 : UInt64))) % (4294967296 : UInt64)) + (((l0 / (4294967296 : UInt64)) * (l1 % (4294967296 : UInt64))) % (4294967296 : UInt64))) + (((l0 % (4294967296 : UInt64)) * (l1 % (4294967296 : UInt64))) / (4294967296 : UInt64))))))], [], [⟨.blk, 69, 1, 4, .q (List.replicate 4 0)⟩, ⟨.blk, 69, 1, 4, .q (List.replicate 4 0)⟩]⟩) (by kernel_rfl) (allP_cons.2 ⟨g5, (allP_cons.2 ⟨g6, (allP_cons.2 ⟨g7, allP_nil⟩)⟩)⟩) ?_
    refine W_seq ?_
    obtain ⟨g8, h⟩ := gd_some h
    obtain ⟨g9, h⟩ := gd_some h
    obtain ⟨g10, h⟩ := gd_some h
    obtain ⟨g11, h⟩ := gd_some h
    refine W_reg hT ftL_nil [] [] [4, 6, 8, 9, 10, 11, 12] [0, 1] (s' := ⟨[(4, .c (.pt 0 0)), (6, .c (.s (.u64 (l0 / (4294967296 : UInt64))))), (8, .c (.s (.u64 (l1 / (4294967296 : UInt64))))), (9, .c (.pt 1 0)), (10, .c (.s (.u64 ((l0 % (4294967296 : UInt64)) * (l1 % (4294967296 : UInt64)))))), (11, .c (.s (.u64 (((((l0 % (4294967296 : UInt64)) * (l1 / (4294967296 : UInt64))) % (4294967296 : UInt64)) + (((l0 / (4294967296 : UInt64)) * (l1 % (4294967296 : UInt64))) % (4294967296 : UInt64))) + (((l0 % (4294967296 : UInt64)) * (l1 % (4294967296 : UInt64))) / (4294967296 : UInt64)))))), (12, .c (.s (.u64 ((((((l0 % (4294967296 : UInt64)) * (l1 / (4294967296 : UInt64))) / (4294967296 : UInt64)) + (((l0 / (4294967296 : UInt64)) * (l1 % (4294967296 : UInt64))) / (4294967296 : UInt64))) + (((l0 / (4294967296 : UInt64)) * (l1 / (4294967296 : UInt64))) % (4294967296 : UInt64))) + ((((((l0 % (4294967296 : UInt64)) * (l1 / (4294967296 : UInt64))) % (4294967296 : UInt64)) + (((l0 / (4294967296 : UInt64)) * (l1 % (4294967296 : UInt64))) % (4294967296 : UInt64))) + (((l0 % (4294967296 : UInt64)) * (l1 % (4294967296 : UInt64))) / (4294967296 : UInt64))) / (4294967296 : UInt64))))))], [], [⟨.blk, 69, 1, 4, .q (List.replicate 4 0)⟩, ⟨.blk, 69, 1, 4, .q (List.replicate 4 0)⟩]⟩) (by kernel_rfl) (allP_cons.2 ⟨g8, (allP_cons.2 ⟨g9, (allP_cons.2 ⟨g10, (allP_cons.2 ⟨g11, allP_nil⟩)⟩)⟩)⟩) ?_
    refine W_seq ?_
    obtain ⟨g12, h⟩ := gd_some h
    obtain ⟨g13, h⟩ := gd_some h
    obtain ⟨g14, h⟩ := gd_some h
    refine W_reg hT ftL_nil [] [] [4, 6, 8, 9, 11, 12] [0, 1] (s' := ⟨[(4, .c (.pt 0 0)), (6, .c (.s (.u64 (l0 / (4294967296 : UInt64))))), (8, .c (.s (.u64 (l1 / (4294967296 : UInt64))))), (9, .c (.pt 1 0)), (11, .c (.s (.u64 (((((l0 % (4294967296 : UInt64)) * (l1 / (4294967296 : UInt64))) % (4294967296 : UInt64)) + (((l0 / (4294967296 : UInt64)) * (l1 % (4294967296 : UInt64))) % (4294967296 : UInt64))) + (((l0 % (4294967296 : UInt64)) * (l1 % (4294967296 : UInt64))) / (4294967296 : UInt64)))))), (12, .c (.s (.u64 ((((((l0 % (4294967296 : UInt64)) * (l1 / (4294967296 : UInt64))) / (4294967296 : UInt64)) + (((l0 / (4294967296 : UInt64)) * (l1 % (4294967296 : UInt64))) / (4294967296 : UInt64))) + (((l0 / (4294967296 : UInt64)) * (l1 / (4294967296 : UInt64))) % (4294967296 : UInt64))) + ((((((l0 % (4294967296 : UInt64)) * (l1 / (4294967296 : UInt64))) % (4294967296 : UInt64)) + (((l0 / (4294967296 : UInt64)) * (l1 % (4294967296 : UInt64))) % (4294967296 : UInt64))) + (((l0 % (4294967296 : UInt64)) * (l1 % (4294967296 : UInt64))) / (4294967296 : UInt64))) / (4294967296 : UInt64))))))], [], [⟨.blk, 69, 1, 4, .q (List.replicate 4 0)⟩, ⟨.blk, 69, 1, 4, .q ((List.replicate 4 0).set 0 (((l0 % (4294967296 : UInt64)) * (l1 % (4294967296 : UInt64))) % (4294967296 : UInt64)))⟩]⟩) (by kernel_rfl) (allP_cons.2 ⟨g12, (allP_cons.2 ⟨g13, (allP_cons.2 ⟨g14, allP_nil⟩)⟩)⟩) ?_
    refine W_seq ?_
    obtain ⟨g15, h⟩ := gd_some h
    obtain ⟨g16, h⟩ := gd_some h
    obtain ⟨g17, h⟩ := gd_some h
    refine W_reg hT ftL_nil [] [] [4, 6, 8, 9, 12] [0, 1] (s' := ⟨[(4, .c (.pt 0 0)), (6, .c (.s (.u64 (l0 / (4294967296 : UInt64))))), (8, .c (.s (.u64 (l1 / (4294967296 : UInt64))))), (9, .c (.pt 1 0)), (12, .c (.s (.u64 ((((((l0 % (4294967296 : UInt64)) * (l1 / (4294967296 : UInt64))) / (4294967296 : UInt64)) + (((l0 / (4294967296 : UInt64)) * (l1 % (4294967296 : UInt64))) / (4294967296 : UInt64))) + (((l0 / (4294967296 : UInt64)) * (l1 / (4294967296 : UInt64))) % (4294967296 : UInt64))) + ((((((l0 % (4294967296 : UInt64)) * (l1 / (4294967296 : UInt64))) % (4294967296 : UInt64)) + (((l0 / (4294967296 : UInt64)) * (l1 % (4294967296 : UInt64))) % (4294967296 : UInt64))) + (((l0 % (4294967296 : UInt64)) * (l1 % (4294967296 : UInt64))) / (4294967296 : UInt64))) / (4294967296 : UInt64))))))], [], [⟨.blk, 69, 1, 4, .q (List.replicate 4 0)⟩, ⟨.blk, 69, 1, 4, .q (((List.replicate 4 0).set 0 (((l0 % (4294967296 : UInt64)) * (l1 % (4294967296 : UInt64))) % (4294967296 : UInt64))).set 1 ((((((l0 % (4294967296 : UInt64)) * (l1 / (4294967296 : UInt64))) % (4294967296 : UInt64)) + (((l0 / (4294967296 : UInt64)) * (l1 % (4294967296 : UInt64))) % (4294967296 : UInt64))) + (((l0 % (4294967296 : UInt64)) * (l1 % (4294967296 : UInt64))) / (4294967296 : UInt64))) % (4294967296 : UInt64)))⟩]⟩) (by kernel_rfl) (allP_cons.2 ⟨g15, (allP_cons.2 ⟨g16, (allP_cons.2 ⟨g17, allP_nil⟩)⟩)⟩) ?_
    refine W_seq ?_
    obtain ⟨g18, h⟩ := gd_some h
    obtain ⟨g19, h⟩ := gd_some h
    obtain ⟨g20, h⟩ := gd_some h
    refine W_reg hT ftL_nil [] [] [4, 6, 8, 9, 12] [0, 1] (s' := ⟨[(4, .c (.pt 0 0)), (6, .c (.s (.u64 (l0 / (4294967296 : UInt64))))), (8, .c (.s (.u64 (l1 / (4294967296 : UInt64))))), (9, .c (.pt 1 0)), (12, .c (.s (.u64 ((((((l0 % (4294967296 : UInt64)) * (l1 / (4294967296 : UInt64))) / (4294967296 : UInt64)) + (((l0 / (4294967296 : UInt64)) * (l1 % (4294967296 : UInt64))) / (4294967296 : UInt64))) + (((l0 / (4294967296 : UInt64)) * (l1 / (4294967296 : UInt64))) % (4294967296 : UInt64))) + ((((((l0 % (4294967296 : UInt64)) * (l1 / (4294967296 : UInt64))) % (4294967296 : UInt64)) + (((l0 / (4294967296 : UInt64)) * (l1 % (4294967296 : UInt64))) % (4294967296 : UInt64))) + (((l0 % (4294967296 : UInt64)) * (l1 % (4294967296 : UInt64))) / (4294967296 : UInt64))) / (4294967296 : UInt64))))))], [], [⟨.blk, 69, 1, 4, .q (List.replicate 4 0)⟩, ⟨.blk, 69, 1, 4, .q ((((List.replicate 4 0).set 0 (((l0 % (4294967296 : UInt64)) * (l1 % (4294967296 : UInt64))) % (4294967296 : UInt64))).set 1 ((((((l0 % (4294967296 : UInt64)) * (l1 / (4294967296 : UInt64))) % (4294967296 : UInt64)) + (((l0 / (4294967296 : UInt64)) * (l1 % (4294967296 : UInt64))) % (4294967296 : UInt64))) + (((l0 % (4294967296 : UInt64)) * (l1 % (4294967296 : UInt64))) / (4294967296 : UInt64))) % (4294967296 : UInt64))).set 2 (((((((l0 % (4294967296 : UInt64)) * (l1 / (4294967296 : UInt64))) / (4294967296 : UInt64)) + (((l0 / (4294967296 : UInt64)) * (l1 % (4294967296 : UInt64))) / (4294967296 : UInt64))) + (((l0 / (4294967296 : UInt64)) * (l1 / (4294967296 : UInt64))) % (4294967296 : UInt64))) + ((((((l0 % (4294967296 : UInt64)) * (l1 / (4294967296 : UInt64))) % (4294967296 : UInt64)) + (((l0 / (4294967296 : UInt64)) * (l1 % (4294967296 : UInt64))) % (4294967296 : UInt64))) + (((l0 % (4294967296 : UInt64)) * (l1 % (4294967296 : UInt64))) / (4294967296 : UInt64))) / (4294967296 : UInt64))) % (4294967296 : UInt64)))⟩]⟩) (by kernel_rfl) (allP_cons.2 ⟨g18, (allP_cons.2 ⟨g19, (allP_cons.2 ⟨g20, allP_nil⟩)⟩)⟩) ?_
    refine W_seq ?_
    obtain ⟨g21, h⟩ := gd_some h
    obtain ⟨g22, h⟩ := gd_some h
    obtain ⟨g23, h⟩ := gd_some h
    obtain ⟨g24, h⟩ := gd_some h
    refine W_reg hT ftL_nil [] [] [4, 9] [0, 1] (s' := ⟨[(4, .c (.pt 0 0)), (9, .c (.pt 1 0))], [], [⟨.blk, 69, 1, 4, .q (List.replicate 4 0)⟩, ⟨.blk, 69, 1, 4, .q (((((List.replicate 4 0).set 0 (((l0 % (4294967296 : UInt64)) * (l1 % (4294967296 : UInt64))) % (4294967296 : UInt64))).set 1 ((((((l0 % (4294967296 : UInt64)) * (l1 / (4294967296 : UInt64))) % (4294967296 : UInt64)) + (((l0 / (4294967296 : UInt64)) * (l1 % (4294967296 : UInt64))) % (4294967296 : UInt64))) + (((l0 % (4294967296 : UInt64)) * (l1 % (4294967296 : UInt64))) / (4294967296 : UInt64))) % (4294967296 : UInt64))).set 2 (((((((l0 % (4294967296 : UInt64)) * (l1 / (4294967296 : UInt64))) / (4294967296 : UInt64)) + (((l0 / (4294967296 : UInt64)) * (l1 % (4294967296 : UInt64))) / (4294967296 : UInt64))) + (((l0 / (4294967296 : UInt64)) * (l1 / (4294967296 : UInt64))) % (4294967296 : UInt64))) + ((((((l0 % (4294967296 : UInt64)) * (l1 / (4294967296 : UInt64))) % (4294967296 : UInt64)) + (((l0 / (4294967296 : UInt64)) * (l1 % (4294967296 : UInt64))) % (4294967296 : UInt64))) + (((l0 % (4294967296 : UInt64)) * (l1 % (4294967296 : UInt64))) / (4294967296 : UInt64))) / (4294967296 : UInt64))) % (4294967296 : UInt64))).set 3 ((((l0 / (4294967296 : UInt64)) * (l1 / (4294967296 : UInt64))) / (4294967296 : UInt64)) + (((((((l0 % (4294967296 : UInt64)) * (l1 / (4294967296 : UInt64))) / (4294967296 : UInt64)) + (((l0 / (4294967296 : UInt64)) * (l1 % (4294967296 : UInt64))) / (4294967296 : UInt64))) + (((l0 / (4294967296 : UInt64)) * (l1 / (4294967296 : UInt64))) % (4294967296 : UInt64))) + ((((((l0 % (4294967296 : UInt64)) * (l1 / (4294967296 : UInt64))) % (4294967296 : UInt64)) + (((l0 / (4294967296 : UInt64)) * (l1 % (4294967296 : UInt64))) % (4294967296 : UInt64))) + (((l0 % (4294967296 : UInt64)) * (l1 % (4294967296 : UInt64))) / (4294967296 : UInt64))) / (4294967296 : UInt64))) / (4294967296 : UInt64))))⟩]⟩) (by kernel_rfl) (allP_cons.2 ⟨g21, (allP_cons.2 ⟨g22, (allP_cons.2 ⟨g23, (allP_cons.2 ⟨g24, allP_nil⟩)⟩)⟩)⟩) ?_
    refine W_seq ?_
    refine W_reg hT ftL_nil [] [] [4] [0] (s' := ⟨[(4, .c (.pt 0 0))], [], [⟨.blk, 69, 1, 4, .q (((((List.replicate 4 0).set 0 (((l0 % (4294967296 : UInt64)) * (l1 % (4294967296 : UInt64))) % (4294967296 : UInt64))).set 1 ((((((l0 % (4294967296 : UInt64)) * (l1 / (4294967296 : UInt64))) % (4294967296 : UInt64)) + (((l0 / (4294967296 : UInt64)) * (l1 % (4294967296 : UInt64))) % (4294967296 : UInt64))) + (((l0 % (4294967296 : UInt64)) * (l1 % (4294967296 : UInt64))) / (4294967296 : UInt64))) % (4294967296 : UInt64))).set 2 (((((((l0 % (4294967296 : UInt64)) * (l1 / (4294967296 : UInt64))) / (4294967296 : UInt64)) + (((l0 / (4294967296 : UInt64)) * (l1 % (4294967296 : UInt64))) / (4294967296 : UInt64))) + (((l0 / (4294967296 : UInt64)) * (l1 / (4294967296 : UInt64))) % (4294967296 : UInt64))) + ((((((l0 % (4294967296 : UInt64)) * (l1 / (4294967296 : UInt64))) % (4294967296 : UInt64)) + (((l0 / (4294967296 : UInt64)) * (l1 % (4294967296 : UInt64))) % (4294967296 : UInt64))) + (((l0 % (4294967296 : UInt64)) * (l1 % (4294967296 : UInt64))) / (4294967296 : UInt64))) / (4294967296 : UInt64))) % (4294967296 : UInt64))).set 3 ((((l0 / (4294967296 : UInt64)) * (l1 / (4294967296 : UInt64))) / (4294967296 : UInt64)) + (((((((l0 % (4294967296 : UInt64)) * (l1 / (4294967296 : UInt64))) / (4294967296 : UInt64)) + (((l0 / (4294967296 : UInt64)) * (l1 % (4294967296 : UInt64))) / (4294967296 : UInt64))) + (((l0 / (4294967296 : UInt64)) * (l1 / (4294967296 : UInt64))) % (4294967296 : UInt64))) + ((((((l0 % (4294967296 : UInt64)) * (l1 / (4294967296 : UInt64))) % (4294967296 : UInt64)) + (((l0 / (4294967296 : UInt64)) * (l1 % (4294967296 : UInt64))) % (4294967296 : UInt64))) + (((l0 % (4294967296 : UInt64)) * (l1 % (4294967296 : UInt64))) / (4294967296 : UInt64))) / (4294967296 : UInt64))) / (4294967296 : UInt64))))⟩]⟩) (by kernel_rfl) allP_nil ?_
    refine W_co [] [4] [0] (s' := (rproduct_R (((((List.replicate 4 0).set 0 (((l0 % (4294967296 : UInt64)) * (l1 % (4294967296 : UInt64))) % (4294967296 : UInt64))).set 1 ((((((l0 % (4294967296 : UInt64)) * (l1 / (4294967296 : UInt64))) % (4294967296 : UInt64)) + (((l0 / (4294967296 : UInt64)) * (l1 % (4294967296 : UInt64))) % (4294967296 : UInt64))) + (((l0 % (4294967296 : UInt64)) * (l1 % (4294967296 : UInt64))) / (4294967296 : UInt64))) % (4294967296 : UInt64))).set 2 (((((((l0 % (4294967296 : UInt64)) * (l1 / (4294967296 : UInt64))) / (4294967296 : UInt64)) + (((l0 / (4294967296 : UInt64)) * (l1 % (4294967296 : UInt64))) / (4294967296 : UInt64))) + (((l0 / (4294967296 : UInt64)) * (l1 / (4294967296 : UInt64))) % (4294967296 : UInt64))) + ((((((l0 % (4294967296 : UInt64)) * (l1 / (4294967296 : UInt64))) % (4294967296 : UInt64)) + (((l0 / (4294967296 : UInt64)) * (l1 % (4294967296 : UInt64))) % (4294967296 : UInt64))) + (((l0 % (4294967296 : UInt64)) * (l1 % (4294967296 : UInt64))) / (4294967296 : UInt64))) / (4294967296 : UInt64))) % (4294967296 : UInt64))).set 3 ((((l0 / (4294967296 : UInt64)) * (l1 / (4294967296 : UInt64))) / (4294967296 : UInt64)) + (((((((l0 % (4294967296 : UInt64)) * (l1 / (4294967296 : UInt64))) / (4294967296 : UInt64)) + (((l0 / (4294967296 : UInt64)) * (l1 % (4294967296 : UInt64))) / (4294967296 : UInt64))) + (((l0 / (4294967296 : UInt64)) * (l1 / (4294967296 : UInt64))) % (4294967296 : UInt64))) + ((((((l0 % (4294967296 : UInt64)) * (l1 / (4294967296 : UInt64))) % (4294967296 : UInt64)) + (((l0 / (4294967296 : UInt64)) * (l1 % (4294967296 : UInt64))) % (4294967296 : UInt64))) + (((l0 % (4294967296 : UInt64)) * (l1 % (4294967296 : UInt64))) / (4294967296 : UInt64))) / (4294967296 : UInt64))) / (4294967296 : UInt64)))))) (by kernel_rfl) (W_ret ?_)
    exact ⟨.inl rfl, by cases h; rfl⟩
  · rintro e s' ⟨he, rfl⟩
    refine ⟨he, fun a' w' hr => ?_⟩
    exact retS_ok tabO_mq hr (rs := [.cell 4 69]) rfl (objs := []) (by kernel_rfl)
def rsquare_R (r : Bool) : S := ⟨[(4, .c (.s (.b r)))], [], []⟩
def rsquare_ct (n : Nat) (r : Bool) : Ct := fun args H => match args with
  | [x0, x1] => (match aU64 x0 with | some l0 => (match aU64 x1 with | some l1 => some ([rsquare n l0 l1 = some r], shA H.length (.c (.s (.b r))), shH H.length []) | none => none) | none => none)
  | _ => none
theorem rsquare_ok (n : Nat) (r : Bool) : FnOk Tryd.prog Tr 40 (rsquare_ct n r) := by
  refine ⟨fun args H g av objs hF hg ρ w vals hG hp ha => ?_, _, Tryd.func40, by kernel_rfl, by kernel_rfl⟩
  obtain ⟨x0, x1, rfl⟩ : ∃ x0 x1, args = [x0, x1] := by
    unfold rsquare_ct at hF; split at hF
    · exact ⟨_, _, rfl⟩
    · cases hF
  cases e0 : aU64 x0 with
  | none => simp only [rsquare_ct, e0, reduceCtorEq] at hF
  | some l0 =>
  cases e1 : aU64 x1 with
  | none => simp only [rsquare_ct, e0, e1, reduceCtorEq] at hF
  | some l1 =>
  simp only [rsquare_ct, e0, e1, Option.some.injEq, Prod.mk.injEq] at hF
  obtain ⟨rfl, rfl, rfl⟩ := hF
  obtain ⟨v0, vals, rfl, k0, ha⟩ := F2.inv ha
  obtain ⟨v1, vals, rfl, k1, ha⟩ := F2.inv ha
  obtain rfl := F2.inv0 ha
  have hI : ∀ w', Kp (noB (fun _ => undef)) w w' → Tr w' := fun _ hk => Tr.keep hk.below hG
  have h : rsquare n l0 l1 = some r := hg
  have s0 := aU64_ok e0 (k0)
  have s1 := aU64_ok e1 (k1)
  have hR0 := rel0 (gv := (fun _ => undef)) (n := 35) (w := w) (args := [.c (.s (.u64 l0)), .c (.s (.u64 l1))]) (H := []) (gl := []) (hpL (ps := []) F2.nil) (allRo_ok rfl) (F2.cons s0 (F2.cons s1 F2.nil)) GlR.nil (by simp)
  clear ha hp hg k0 k1 e0 e1
  refine calls_W Tryd.func40 rfl rfl hR0 (Q := fun e s => (e = .ret ∨ e = .normal) ∧ s = rsquare_R r) ?_ ?_
  · clear hR0
    unfold rsquare at h
    have hT := tabO_mq
    refine W_seq ?_
    refine W_reg hT ftL_nil [] [] [0, 1] [] (s' := ⟨[(0, .c (.s (.u64 l0))), (1, .c (.s (.u64 l1)))], [], []⟩) (by kernel_rfl) allP_nil ?_
    refine W_seq ?_
    obtain ⟨r10, g1, h⟩ := bind_some' h
    refine W_reg hT (ftL_cons (k := 2) (f := 45) (F := (rproduct_ct n r10)) (rproduct_ok n r10) (fun _ _ => True.intro) ftL_nil) [] [] [1, 5] [0] (s' := ⟨[(1, .c (.s (.u64 l1))), (5, .c (.pt 0 0))], [], [⟨.blk, 69, 1, 4, .q r10⟩]⟩) (by kernel_rfl) (allP_cons.2 ⟨g1, allP_nil⟩) ?_
    refine W_seq ?_
    obtain ⟨g2, h⟩ := gd_some h
    obtain ⟨g3, h⟩ := gd_some h
    obtain ⟨g4, h⟩ := gd_some h
    obtain ⟨g5, h⟩ := gd_some h
    refine W_reg hT ftL_nil [] [] [1, 5, 6] [0] (s' := ⟨[(1, .c (.s (.u64 l1))), (5, .c (.pt 0 0)), (6, .c (.s (.u64 (((r10.getD 3 0) * (4294967296 : UInt64)) + (r10.getD 2 0)))))], [], [⟨.blk, 69, 1, 4, .q r10⟩]⟩) (by kernel_rfl) (allP_cons.2 ⟨g2, (allP_cons.2 ⟨g3, (allP_cons.2 ⟨g4, (allP_cons.2 ⟨g5, allP_nil⟩)⟩)⟩)⟩) ?_
    refine W_seq ?_
    obtain ⟨g6, h⟩ := gd_some h
    obtain ⟨g7, h⟩ := gd_some h
    obtain ⟨g8, h⟩ := gd_some h
    obtain ⟨g9, h⟩ := gd_some h
    refine W_reg hT ftL_nil [] [] [1, 6, 7] [] (s' := ⟨[(1, .c (.s (.u64 l1))), (6, .c (.s (.u64 (((r10.getD 3 0) * (4294967296 : UInt64)) + (r10.getD 2 0))))), (7, .c (.s (.u64 (((r10.getD 1 0) * (4294967296 : UInt64)) + (r10.getD 0 0)))))], [], []⟩) (by kernel_rfl) (allP_cons.2 ⟨g6, (allP_cons.2 ⟨g7, (allP_cons.2 ⟨g8, (allP_cons.2 ⟨g9, allP_nil⟩)⟩)⟩)⟩) ?_
    refine W_seq ?_
    rcases Bool.eq_false_or_eq_true (decide ((((r10.getD 3 0) * (4294967296 : UInt64)) + (r10.getD 2 0)) < l1)) with g10 | g10
    · replace h := bif_t h g10
      refine W_reg hT ftL_nil [(3, true)] [] [4] [] (s' := ⟨[(4, .c (.s (.b true)))], [], []⟩) (by kernel_rfl) (allP_cons.2 ⟨g10, allP_nil⟩) ?_
      refine W_co [] [4] [] (s' := (rsquare_R true)) (by kernel_rfl) (W_ret ?_)
      exact ⟨.inl rfl, by cases h; rfl⟩
    · replace h := bif_f h g10
      rcases Bool.eq_false_or_eq_true ((((r10.getD 3 0) * (4294967296 : UInt64)) + (r10.getD 2 0)) == l1) with g11 | g11
      · replace h := bif_t h g11
        refine W_reg hT ftL_nil [(3, false), (7, true)] [] [4] [] (s' := ⟨[(4, .c (.s (.b ((((r10.getD 1 0) * (4294967296 : UInt64)) + (r10.getD 0 0)) == 0))))], [], []⟩) (by kernel_rfl) (allP_cons.2 ⟨g10, (allP_cons.2 ⟨g11, allP_nil⟩)⟩) ?_
        refine W_co [] [4] [] (s' := (rsquare_R ((((r10.getD 1 0) * (4294967296 : UInt64)) + (r10.getD 0 0)) == 0))) (by kernel_rfl) (W_ret ?_)
        exact ⟨.inl rfl, by cases h; rfl⟩
      · replace h := bif_f h g11
        refine W_reg hT ftL_nil [(3, false), (7, false)] [] [4] [] (s' := ⟨[(4, .c (.s (.b false)))], [], []⟩) (by kernel_rfl) (allP_cons.2 ⟨g10, (allP_cons.2 ⟨g11, allP_nil⟩)⟩) ?_
        refine W_co [] [4] [] (s' := (rsquare_R false)) (by kernel_rfl) (W_ret ?_)
        exact ⟨.inl rfl, by cases h; rfl⟩
  · rintro e s' ⟨he, rfl⟩
    refine ⟨he, fun a' w' hr => ?_⟩
    exact retS_ok tabO_mq hr (rs := [.tmp 4]) rfl (objs := []) (by kernel_rfl)
def rcube_j2_E (a0 : UInt64) (a1 : UInt64) (r17 : List UInt64) (q6_1 : List UInt64) (i10_1 : Int) (y9_9 : UInt64) (y11_7 : UInt64) : S := ⟨[(1, .c (.s (.u64 a1))), (5, .c (.pt 0 0)), (6, .c (.pt 1 0)), (7, .c (.s (.u64 (a0 % (4294967296 : UInt64))))), (8, .c (.s (.u64 (a0 / (4294967296 : UInt64))))), (9, .c (.s (.u64 y9_9))), (10, .c (.s (.k .i64 i10_1))), (11, .c (.s (.u64 y11_7)))], [], [⟨.blk, 69, 1, 4, .q r17⟩, ⟨.blk, 71, 1, 5, .q q6_1⟩]⟩
def rcube_j2_P (n : Nat) (a0 : UInt64) (a1 : UInt64) (r17 : List UInt64) (q6_1 : List UInt64) (i10_1 : Int) (k_l1 : (List UInt64) → UInt64 → Int → Option (Bool)) (r : Bool) : S → Prop := fun s => ∃ (y9_9 : UInt64), ∃ (y11_7 : UInt64), s = rcube_j2_E a0 a1 r17 q6_1 i10_1 y9_9 y11_7 ∧ rcube_j2 n a0 a1 r17 q6_1 i10_1 k_l1 y9_9 y11_7 = some r
theorem rcube_j2_M {n : Nat} {a0 : UInt64} {a1 : UInt64} {r17 : List UInt64} {q6_1 : List UInt64} {i10_1 : Int} {k_l1 : (List UInt64) → UInt64 → Int → Option (Bool)} {y9_9 : UInt64} {y11_7 : UInt64} {r : Bool} (h : rcube_j2 n a0 a1 r17 q6_1 i10_1 k_l1 y9_9 y11_7 = some r) : rcube_j2_P n a0 a1 r17 q6_1 i10_1 k_l1 r (rcube_j2_E a0 a1 r17 q6_1 i10_1 y9_9 y11_7) := ⟨y9_9, y11_7, rfl, h⟩
def rcube_j1_E (a0 : UInt64) (a1 : UInt64) (r17 : List UInt64) (q6_1 : List UInt64) (i10_1 : Int) (y9_8 : UInt64) (y11_6 : UInt64) : S := ⟨[(1, .c (.s (.u64 a1))), (5, .c (.pt 0 0)), (6, .c (.pt 1 0)), (7, .c (.s (.u64 (a0 % (4294967296 : UInt64))))), (8, .c (.s (.u64 (a0 / (4294967296 : UInt64))))), (9, .c (.s (.u64 y9_8))), (10, .c (.s (.k .i64 i10_1))), (11, .c (.s (.u64 y11_6)))], [], [⟨.blk, 69, 1, 4, .q r17⟩, ⟨.blk, 71, 1, 5, .q q6_1⟩]⟩
def rcube_j1_P (n : Nat) (a0 : UInt64) (a1 : UInt64) (r17 : List UInt64) (q6_1 : List UInt64) (i10_1 : Int) (k_l1 : (List UInt64) → UInt64 → Int → Option (Bool)) (r : Bool) : S → Prop := fun s => ∃ (y9_8 : UInt64), ∃ (y11_6 : UInt64), s = rcube_j1_E a0 a1 r17 q6_1 i10_1 y9_8 y11_6 ∧ rcube_j1 n a0 a1 r17 q6_1 i10_1 k_l1 y9_8 y11_6 = some r
theorem rcube_j1_M {n : Nat} {a0 : UInt64} {a1 : UInt64} {r17 : List UInt64} {q6_1 : List UInt64} {i10_1 : Int} {k_l1 : (List UInt64) → UInt64 → Int → Option (Bool)} {y9_8 : UInt64} {y11_6 : UInt64} {r : Bool} (h : rcube_j1 n a0 a1 r17 q6_1 i10_1 k_l1 y9_8 y11_6 = some r) : rcube_j1_P n a0 a1 r17 q6_1 i10_1 k_l1 r (rcube_j1_E a0 a1 r17 q6_1 i10_1 y9_8 y11_6) := ⟨y9_8, y11_6, rfl, h⟩
def rcube_l1_E (a0 : UInt64) (a1 : UInt64) (r17 : List UInt64) (q6_1 : List UInt64) (y9_5 : UInt64) (i10_1 : Int) : S := ⟨[(1, .c (.s (.u64 a1))), (5, .c (.pt 0 0)), (6, .c (.pt 1 0)), (7, .c (.s (.u64 (a0 % (4294967296 : UInt64))))), (8, .c (.s (.u64 (a0 / (4294967296 : UInt64))))), (9, .c (.s (.u64 y9_5))), (10, .c (.s (.k .i64 i10_1)))], [], [⟨.blk, 69, 1, 4, .q r17⟩, ⟨.blk, 71, 1, 5, .q q6_1⟩]⟩
def rcube_l1_P (n : Nat) (a0 : UInt64) (a1 : UInt64) (r17 : List UInt64) (r : Bool) (fu : Nat) : S → Prop := fun s => ∃ (q6_1 : List UInt64), ∃ (y9_5 : UInt64), ∃ (i10_1 : Int), s = rcube_l1_E a0 a1 r17 q6_1 y9_5 i10_1 ∧ rcube_l1 n a0 a1 r17 fu q6_1 y9_5 i10_1 = some r
theorem rcube_l1_M {n : Nat} {a0 : UInt64} {a1 : UInt64} {r17 : List UInt64} {q6_1 : List UInt64} {y9_5 : UInt64} {i10_1 : Int} {r : Bool} {fu : Nat} (h : rcube_l1 n a0 a1 r17 fu q6_1 y9_5 i10_1 = some r) : rcube_l1_P n a0 a1 r17 r fu (rcube_l1_E a0 a1 r17 q6_1 y9_5 i10_1) := ⟨q6_1, y9_5, i10_1, rfl, h⟩
def rcube_R (r : Bool) : S := ⟨[(4, .c (.s (.b r)))], [], []⟩
def rcube_ct (n : Nat) (r : Bool) : Ct := fun args H => match args with
  | [x0, x1] => (match aU64 x0 with | some l0 => (match aU64 x1 with | some l1 => some ([rcube n l0 l1 = some r], shA H.length (.c (.s (.b r))), shH H.length []) | none => none) | none => none)
  | _ => none
theorem rcube_ok (n : Nat) (r : Bool) : FnOk Tryd.prog Tr 39 (rcube_ct n r) := by
  refine ⟨fun args H g av objs hF hg ρ w vals hG hp ha => ?_, _, Tryd.func39, by kernel_rfl, by kernel_rfl⟩
  obtain ⟨x0, x1, rfl⟩ : ∃ x0 x1, args = [x0, x1] := by
    unfold rcube_ct at hF; split at hF
    · exact ⟨_, _, rfl⟩
    · cases hF
  cases e0 : aU64 x0 with
  | none => simp only [rcube_ct, e0, reduceCtorEq] at hF
  | some l0 =>
  cases e1 : aU64 x1 with
  | none => simp only [rcube_ct, e0, e1, reduceCtorEq] at hF
  | some l1 =>
  simp only [rcube_ct, e0, e1, Option.some.injEq, Prod.mk.injEq] at hF
  obtain ⟨rfl, rfl, rfl⟩ := hF
  obtain ⟨v0, vals, rfl, k0, ha⟩ := F2.inv ha
  obtain ⟨v1, vals, rfl, k1, ha⟩ := F2.inv ha
  obtain rfl := F2.inv0 ha
  have hI : ∀ w', Kp (noB (fun _ => undef)) w w' → Tr w' := fun _ hk => Tr.keep hk.below hG
  have h : rcube n l0 l1 = some r := hg
  have s0 := aU64_ok e0 (k0)
  have s1 := aU64_ok e1 (k1)
  have hR0 := rel0 (gv := (fun _ => undef)) (n := 95) (w := w) (args := [.c (.s (.u64 l0)), .c (.s (.u64 l1))]) (H := []) (gl := []) (hpL (ps := []) F2.nil) (allRo_ok rfl) (F2.cons s0 (F2.cons s1 F2.nil)) GlR.nil (by simp)
  clear ha hp hg k0 k1 e0 e1
  refine calls_W Tryd.func39 rfl rfl hR0 (Q := fun e s => (e = .ret ∨ e = .normal) ∧ s = rcube_R r) ?_ ?_
  · clear hR0
    unfold rcube at h
    have hT := tabO_mq
    refine W_seq ?_
    refine W_reg hT ftL_nil [] [] [0, 1] [] (s' := ⟨[(0, .c (.s (.u64 l0))), (1, .c (.s (.u64 l1)))], [], []⟩) (by kernel_rfl) allP_nil ?_
    refine W_seq ?_
    obtain ⟨r17, g1, h⟩ := bind_some' h
    refine W_reg hT (ftL_cons (k := 2) (f := 45) (F := (rproduct_ct n r17)) (rproduct_ok n r17) (fun _ _ => True.intro) ftL_nil) [] [] [0, 1, 5] [0] (s' := ⟨[(0, .c (.s (.u64 l0))), (1, .c (.s (.u64 l1))), (5, .c (.pt 0 0))], [], [⟨.blk, 69, 1, 4, .q r17⟩]⟩) (by kernel_rfl) (allP_cons.2 ⟨g1, allP_nil⟩) ?_
    refine W_seq ?_
    refine W_reg hT ftL_nil [] [] [0, 1, 5, 6] [0, 1] (s' := ⟨[(0, .c (.s (.u64 l0))), (1, .c (.s (.u64 l1))), (5, .c (.pt 0 0)), (6, .c (.pt 1 0))], [], [⟨.blk, 69, 1, 4, .q r17⟩, ⟨.blk, 71, 1, 5, .q (List.replicate 5 0)⟩]⟩) (by kernel_rfl) allP_nil ?_
    refine W_seq ?_
    obtain ⟨g2, h⟩ := gd_some h
    obtain ⟨g3, h⟩ := gd_some h
    refine W_reg hT ftL_nil [] [] [1, 5, 6, 7, 8] [0, 1] (s' := ⟨[(1, .c (.s (.u64 l1))), (5, .c (.pt 0 0)), (6, .c (.pt 1 0)), (7, .c (.s (.u64 (l0 % (4294967296 : UInt64))))), (8, .c (.s (.u64 (l0 / (4294967296 : UInt64)))))], [], [⟨.blk, 69, 1, 4, .q r17⟩, ⟨.blk, 71, 1, 5, .q (List.replicate 5 0)⟩]⟩) (by kernel_rfl) (allP_cons.2 ⟨g2, (allP_cons.2 ⟨g3, allP_nil⟩)⟩) ?_
    refine W_seq ?_
    refine W_reg hT ftL_nil [] [] [1, 5, 6, 7, 8, 9] [0, 1] (s' := ⟨[(1, .c (.s (.u64 l1))), (5, .c (.pt 0 0)), (6, .c (.pt 1 0)), (7, .c (.s (.u64 (l0 % (4294967296 : UInt64))))), (8, .c (.s (.u64 (l0 / (4294967296 : UInt64))))), (9, .c (.s (.u64 0)))], [], [⟨.blk, 69, 1, 4, .q r17⟩, ⟨.blk, 71, 1, 5, .q (List.replicate 5 0)⟩]⟩) (by kernel_rfl) allP_nil ?_
    refine W_seq ?_
    refine W_seq ?_
    refine W_reg hT ftL_nil [] [] [1, 5, 6, 7, 8, 9, 10] [0, 1] (s' := ⟨[(1, .c (.s (.u64 l1))), (5, .c (.pt 0 0)), (6, .c (.pt 1 0)), (7, .c (.s (.u64 (l0 % (4294967296 : UInt64))))), (8, .c (.s (.u64 (l0 / (4294967296 : UInt64))))), (9, .c (.s (.u64 0))), (10, .c (.s (.k .i64 0)))], [], [⟨.blk, 69, 1, 4, .q r17⟩, ⟨.blk, 71, 1, 5, .q (List.replicate 5 0)⟩]⟩) (by kernel_rfl) allP_nil ?_
    refine W_block ?_
    refine W_co [] [1, 5, 6, 7, 8, 9, 10] [0, 1] (s' := (rcube_l1_E l0 l1 r17 (List.replicate 5 0) 0 0)) (by kernel_rfl) (W_lp ((rcube_l1_P n l0 l1 r17 r)) n (rcube_l1_M h) ?_)
    rintro fu_l1 _ ⟨q6_1, y9_5, i10_1, rfl, h⟩
    cases fu_l1 with
    | zero => cases h
    | succ fu_l1 =>
      refine ⟨fu_l1, rfl, ?_⟩
      rw [rcube_l1] at h
      refine W_seq ?_
      refine W_seq ?_
      refine W_reg hT ftL_nil [] [] [1, 5, 6, 7, 8, 9, 10, 23] [0, 1] (s' := ⟨[(1, .c (.s (.u64 l1))), (5, .c (.pt 0 0)), (6, .c (.pt 1 0)), (7, .c (.s (.u64 (l0 % (4294967296 : UInt64))))), (8, .c (.s (.u64 (l0 / (4294967296 : UInt64))))), (9, .c (.s (.u64 y9_5))), (10, .c (.s (.k .i64 i10_1))), (23, .c (.s (.b (decide (i10_1 < (5 : Int))))))], [], [⟨.blk, 69, 1, 4, .q r17⟩, ⟨.blk, 71, 1, 5, .q q6_1⟩]⟩) (by kernel_rfl) allP_nil ?_
      refine W_cond (b := (decide (i10_1 < (5 : Int)))) (by kernel_rfl) (fun g34 => ?_) (fun g34 => ?_)
      · replace h := bif_t h g34
        refine W_co [] [1, 5, 6, 7, 8, 9, 10] [0, 1] (s' := ⟨[(1, .c (.s (.u64 l1))), (5, .c (.pt 0 0)), (6, .c (.pt 1 0)), (7, .c (.s (.u64 (l0 % (4294967296 : UInt64))))), (8, .c (.s (.u64 (l0 / (4294967296 : UInt64))))), (9, .c (.s (.u64 y9_5))), (10, .c (.s (.k .i64 i10_1)))], [], [⟨.blk, 69, 1, 4, .q r17⟩, ⟨.blk, 71, 1, 5, .q q6_1⟩]⟩) (by kernel_rfl) (W_skip ?_)
        refine W_seq ?_
        refine W_block ?_
        refine W_seq ?_
        refine W_reg hT ftL_nil [] [] [1, 5, 6, 7, 8, 10, 11] [0, 1] (s' := ⟨[(1, .c (.s (.u64 l1))), (5, .c (.pt 0 0)), (6, .c (.pt 1 0)), (7, .c (.s (.u64 (l0 % (4294967296 : UInt64))))), (8, .c (.s (.u64 (l0 / (4294967296 : UInt64))))), (10, .c (.s (.k .i64 i10_1))), (11, .c (.s (.u64 y9_5)))], [], [⟨.blk, 69, 1, 4, .q r17⟩, ⟨.blk, 71, 1, 5, .q q6_1⟩]⟩) (by kernel_rfl) allP_nil ?_
        refine W_seq ?_
        refine W_reg hT ftL_nil [] [] [1, 5, 6, 7, 8, 9, 10, 11] [0, 1] (s' := ⟨[(1, .c (.s (.u64 l1))), (5, .c (.pt 0 0)), (6, .c (.pt 1 0)), (7, .c (.s (.u64 (l0 % (4294967296 : UInt64))))), (8, .c (.s (.u64 (l0 / (4294967296 : UInt64))))), (9, .c (.s (.u64 0))), (10, .c (.s (.k .i64 i10_1))), (11, .c (.s (.u64 y9_5)))], [], [⟨.blk, 69, 1, 4, .q r17⟩, ⟨.blk, 71, 1, 5, .q q6_1⟩]⟩) (by kernel_rfl) allP_nil ?_
        refine W_join (rcube_j1_P n l0 l1 r17 q6_1 i10_1 (rcube_l1 n l0 l1 r17 fu_l1) r) ?_ ?_
        · rintro _ ⟨y9_8, y11_6, rfl, h⟩
          unfold rcube_j1 at h
          refine W_join (rcube_j2_P n l0 l1 r17 q6_1 i10_1 (rcube_l1 n l0 l1 r17 fu_l1) r) ?_ ?_
          · rintro _ ⟨y9_9, y11_7, rfl, h⟩
            unfold rcube_j2 at h
            refine W_seq ?_
            obtain ⟨g4, h⟩ := gd_some h
            obtain ⟨g5, h⟩ := gd_some h
            obtain ⟨g6, h⟩ := gd_some h
            refine W_reg hT ftL_nil [] [] [1, 5, 6, 7, 8, 9, 10, 11] [0, 1] (s' := ⟨[(1, .c (.s (.u64 l1))), (5, .c (.pt 0 0)), (6, .c (.pt 1 0)), (7, .c (.s (.u64 (l0 % (4294967296 : UInt64))))), (8, .c (.s (.u64 (l0 / (4294967296 : UInt64))))), (9, .c (.s (.u64 y9_9))), (10, .c (.s (.k .i64 i10_1))), (11, .c (.s (.u64 y11_7)))], [], [⟨.blk, 69, 1, 4, .q r17⟩, ⟨.blk, 71, 1, 5, .q (q6_1.set i10_1.toNat (y11_7 % (4294967296 : UInt64)))⟩]⟩) (by kernel_rfl) (allP_cons.2 ⟨g4, (allP_cons.2 ⟨g5, (allP_cons.2 ⟨g6, allP_nil⟩)⟩)⟩) ?_
            obtain ⟨g7, h⟩ := gd_some h
            refine W_reg hT ftL_nil [] [] [1, 5, 6, 7, 8, 9, 10] [0, 1] (s' := ⟨[(1, .c (.s (.u64 l1))), (5, .c (.pt 0 0)), (6, .c (.pt 1 0)), (7, .c (.s (.u64 (l0 % (4294967296 : UInt64))))), (8, .c (.s (.u64 (l0 / (4294967296 : UInt64))))), (9, .c (.s (.u64 (y9_9 + (y11_7 / (4294967296 : UInt64)))))), (10, .c (.s (.k .i64 i10_1)))], [], [⟨.blk, 69, 1, 4, .q r17⟩, ⟨.blk, 71, 1, 5, .q (q6_1.set i10_1.toNat (y11_7 % (4294967296 : UInt64)))⟩]⟩) (by kernel_rfl) (allP_cons.2 ⟨g7, allP_nil⟩) ?_
            obtain ⟨g8, h⟩ := gd_some h
            refine W_reg hT ftL_nil [] [] [1, 5, 6, 7, 8, 9, 10] [0, 1] (s' := (rcube_l1_E l0 l1 r17 (q6_1.set i10_1.toNat (y11_7 % (4294967296 : UInt64))) (y9_9 + (y11_7 / (4294967296 : UInt64))) (i10_1 + 1))) (by kernel_rfl) (allP_cons.2 ⟨g8, allP_nil⟩) ?_
            exact rcube_l1_M h
          · refine W_seq ?_
            refine W_reg hT ftL_nil [] [] [1, 5, 6, 7, 8, 9, 10, 11, 43] [0, 1] (s' := ⟨[(1, .c (.s (.u64 l1))), (5, .c (.pt 0 0)), (6, .c (.pt 1 0)), (7, .c (.s (.u64 (l0 % (4294967296 : UInt64))))), (8, .c (.s (.u64 (l0 / (4294967296 : UInt64))))), (9, .c (.s (.u64 y9_8))), (10, .c (.s (.k .i64 i10_1))), (11, .c (.s (.u64 y11_6))), (43, .c (.s (.b (decide ((0 : Int) < i10_1)))))], [], [⟨.blk, 69, 1, 4, .q r17⟩, ⟨.blk, 71, 1, 5, .q q6_1⟩]⟩) (by kernel_rfl) allP_nil ?_
            refine W_cond (b := (decide ((0 : Int) < i10_1))) (by kernel_rfl) (fun g14 => ?_) (fun g14 => ?_)
            · replace h := bif_t h g14
              refine W_seq ?_
              obtain ⟨g9, h⟩ := gd_some h
              obtain ⟨g10, h⟩ := gd_some h
              obtain ⟨g11, h⟩ := gd_some h
              refine W_reg hT ftL_nil [] [] [1, 5, 6, 7, 8, 9, 10, 11, 13] [0, 1] (s' := ⟨[(1, .c (.s (.u64 l1))), (5, .c (.pt 0 0)), (6, .c (.pt 1 0)), (7, .c (.s (.u64 (l0 % (4294967296 : UInt64))))), (8, .c (.s (.u64 (l0 / (4294967296 : UInt64))))), (9, .c (.s (.u64 y9_8))), (10, .c (.s (.k .i64 i10_1))), (11, .c (.s (.u64 y11_6))), (13, .c (.s (.u64 ((r17.getD ((i10_1 - 1).toNat) 0) * (l0 / (4294967296 : UInt64))))))], [], [⟨.blk, 69, 1, 4, .q r17⟩, ⟨.blk, 71, 1, 5, .q q6_1⟩]⟩) (by kernel_rfl) (allP_cons.2 ⟨g9, (allP_cons.2 ⟨g10, (allP_cons.2 ⟨g11, allP_nil⟩)⟩)⟩) ?_
              refine W_seq ?_
              obtain ⟨g12, h⟩ := gd_some h
              refine W_reg hT ftL_nil [] [] [1, 5, 6, 7, 8, 9, 10, 11, 13] [0, 1] (s' := ⟨[(1, .c (.s (.u64 l1))), (5, .c (.pt 0 0)), (6, .c (.pt 1 0)), (7, .c (.s (.u64 (l0 % (4294967296 : UInt64))))), (8, .c (.s (.u64 (l0 / (4294967296 : UInt64))))), (9, .c (.s (.u64 y9_8))), (10, .c (.s (.k .i64 i10_1))), (11, .c (.s (.u64 (y11_6 + (((r17.getD ((i10_1 - 1).toNat) 0) * (l0 / (4294967296 : UInt64))) % (4294967296 : UInt64)))))), (13, .c (.s (.u64 ((r17.getD ((i10_1 - 1).toNat) 0) * (l0 / (4294967296 : UInt64))))))], [], [⟨.blk, 69, 1, 4, .q r17⟩, ⟨.blk, 71, 1, 5, .q q6_1⟩]⟩) (by kernel_rfl) (allP_cons.2 ⟨g12, allP_nil⟩) ?_
              obtain ⟨g13, h⟩ := gd_some h
              refine W_reg hT ftL_nil [] [] [1, 5, 6, 7, 8, 9, 10, 11] [0, 1] (s' := (rcube_j2_E l0 l1 r17 q6_1 i10_1 (y9_8 + (((r17.getD ((i10_1 - 1).toNat) 0) * (l0 / (4294967296 : UInt64))) / (4294967296 : UInt64))) (y11_6 + (((r17.getD ((i10_1 - 1).toNat) 0) * (l0 / (4294967296 : UInt64))) % (4294967296 : UInt64))))) (by kernel_rfl) (allP_cons.2 ⟨g13, allP_nil⟩) ?_
              exact rcube_j2_M h
            · replace h := bif_f h g14
              refine W_co [] [1, 5, 6, 7, 8, 9, 10, 11] [0, 1] (s' := (rcube_j2_E l0 l1 r17 q6_1 i10_1 y9_8 y11_6)) (by kernel_rfl) (W_skip ?_)
              exact rcube_j2_M h
        · refine W_seq ?_
          refine W_reg hT ftL_nil [] [] [1, 5, 6, 7, 8, 9, 10, 11, 28] [0, 1] (s' := ⟨[(1, .c (.s (.u64 l1))), (5, .c (.pt 0 0)), (6, .c (.pt 1 0)), (7, .c (.s (.u64 (l0 % (4294967296 : UInt64))))), (8, .c (.s (.u64 (l0 / (4294967296 : UInt64))))), (9, .c (.s (.u64 0))), (10, .c (.s (.k .i64 i10_1))), (11, .c (.s (.u64 y9_5))), (28, .c (.s (.b (decide (i10_1 < (4 : Int))))))], [], [⟨.blk, 69, 1, 4, .q r17⟩, ⟨.blk, 71, 1, 5, .q q6_1⟩]⟩) (by kernel_rfl) allP_nil ?_
          refine W_cond (b := (decide (i10_1 < (4 : Int)))) (by kernel_rfl) (fun g19 => ?_) (fun g19 => ?_)
          · replace h := bif_t h g19
            refine W_seq ?_
            obtain ⟨g15, h⟩ := gd_some h
            obtain ⟨g16, h⟩ := gd_some h
            refine W_reg hT ftL_nil [] [] [1, 5, 6, 7, 8, 9, 10, 11, 12] [0, 1] (s' := ⟨[(1, .c (.s (.u64 l1))), (5, .c (.pt 0 0)), (6, .c (.pt 1 0)), (7, .c (.s (.u64 (l0 % (4294967296 : UInt64))))), (8, .c (.s (.u64 (l0 / (4294967296 : UInt64))))), (9, .c (.s (.u64 0))), (10, .c (.s (.k .i64 i10_1))), (11, .c (.s (.u64 y9_5))), (12, .c (.s (.u64 ((r17.getD i10_1.toNat 0) * (l0 % (4294967296 : UInt64))))))], [], [⟨.blk, 69, 1, 4, .q r17⟩, ⟨.blk, 71, 1, 5, .q q6_1⟩]⟩) (by kernel_rfl) (allP_cons.2 ⟨g15, (allP_cons.2 ⟨g16, allP_nil⟩)⟩) ?_
            refine W_seq ?_
            obtain ⟨g17, h⟩ := gd_some h
            refine W_reg hT ftL_nil [] [] [1, 5, 6, 7, 8, 9, 10, 11, 12] [0, 1] (s' := ⟨[(1, .c (.s (.u64 l1))), (5, .c (.pt 0 0)), (6, .c (.pt 1 0)), (7, .c (.s (.u64 (l0 % (4294967296 : UInt64))))), (8, .c (.s (.u64 (l0 / (4294967296 : UInt64))))), (9, .c (.s (.u64 0))), (10, .c (.s (.k .i64 i10_1))), (11, .c (.s (.u64 (y9_5 + (((r17.getD i10_1.toNat 0) * (l0 % (4294967296 : UInt64))) % (4294967296 : UInt64)))))), (12, .c (.s (.u64 ((r17.getD i10_1.toNat 0) * (l0 % (4294967296 : UInt64))))))], [], [⟨.blk, 69, 1, 4, .q r17⟩, ⟨.blk, 71, 1, 5, .q q6_1⟩]⟩) (by kernel_rfl) (allP_cons.2 ⟨g17, allP_nil⟩) ?_
            obtain ⟨g18, h⟩ := gd_some h
            refine W_reg hT ftL_nil [] [] [1, 5, 6, 7, 8, 9, 10, 11] [0, 1] (s' := (rcube_j1_E l0 l1 r17 q6_1 i10_1 ((0 : UInt64) + (((r17.getD i10_1.toNat 0) * (l0 % (4294967296 : UInt64))) / (4294967296 : UInt64))) (y9_5 + (((r17.getD i10_1.toNat 0) * (l0 % (4294967296 : UInt64))) % (4294967296 : UInt64))))) (by kernel_rfl) (allP_cons.2 ⟨g18, allP_nil⟩) ?_
            exact rcube_j1_M h
          · replace h := bif_f h g19
            refine W_co [] [1, 5, 6, 7, 8, 9, 10, 11] [0, 1] (s' := (rcube_j1_E l0 l1 r17 q6_1 i10_1 0 y9_5)) (by kernel_rfl) (W_skip ?_)
            exact rcube_j1_M h
      · replace h := bif_f h g34
        refine W_co [] [1, 6] [1] (s' := ⟨[(1, .c (.s (.u64 l1))), (6, .c (.pt 0 0))], [], [⟨.blk, 71, 1, 5, .q q6_1⟩]⟩) (by kernel_rfl) (W_exit ?_)
        refine W_seq ?_
        obtain ⟨g20, h⟩ := gd_some h
        obtain ⟨g21, h⟩ := gd_some h
        obtain ⟨g22, h⟩ := gd_some h
        obtain ⟨g23, h⟩ := gd_some h
        refine W_reg hT ftL_nil [] [] [1, 6, 14] [0] (s' := ⟨[(1, .c (.s (.u64 l1))), (6, .c (.pt 0 0)), (14, .c (.s (.u64 (((q6_1.getD 4 0) * (4294967296 : UInt64)) + (q6_1.getD 3 0)))))], [], [⟨.blk, 71, 1, 5, .q q6_1⟩]⟩) (by kernel_rfl) (allP_cons.2 ⟨g20, (allP_cons.2 ⟨g21, (allP_cons.2 ⟨g22, (allP_cons.2 ⟨g23, allP_nil⟩)⟩)⟩)⟩) ?_
        refine W_seq ?_
        rcases Bool.eq_false_or_eq_true (decide ((((q6_1.getD 4 0) * (4294967296 : UInt64)) + (q6_1.getD 3 0)) < l1)) with g24 | g24
        · replace h := bif_t h g24
          refine W_reg hT ftL_nil [(3, true)] [] [4] [] (s' := ⟨[(4, .c (.s (.b true)))], [], []⟩) (by kernel_rfl) (allP_cons.2 ⟨g24, allP_nil⟩) ?_
          refine W_co [] [4] [] (s' := (rcube_R true)) (by kernel_rfl) (W_ret ?_)
          exact ⟨.inl rfl, by cases h; rfl⟩
        · replace h := bif_f h g24
          rcases Bool.eq_false_or_eq_true ((((q6_1.getD 4 0) * (4294967296 : UInt64)) + (q6_1.getD 3 0)) == l1) with g25 | g25
          · replace h := bif_t h g25
            obtain ⟨g26, h⟩ := gd_some h
            obtain ⟨g27, h⟩ := gd_some h
            rcases Bool.eq_false_or_eq_true ((q6_1.getD 0 0) == 0) with g28 | g28
            · replace h := bif_t h g28
              obtain ⟨g29, h⟩ := gd_some h
              obtain ⟨g30, h⟩ := gd_some h
              rcases Bool.eq_false_or_eq_true ((q6_1.getD 1 0) == 0) with g31 | g31
              · replace h := bif_t h g31
                obtain ⟨g32, h⟩ := gd_some h
                obtain ⟨g33, h⟩ := gd_some h
                refine W_reg hT ftL_nil [(3, false), (7, true), (12, true), (17, true)] [] [4] [] (s' := ⟨[(4, .c (.s (.b ((q6_1.getD 2 0) == 0))))], [], []⟩) (by kernel_rfl) (allP_cons.2 ⟨g24, (allP_cons.2 ⟨g25, (allP_cons.2 ⟨g26, (allP_cons.2 ⟨g27, (allP_cons.2 ⟨g28, (allP_cons.2 ⟨g29, (allP_cons.2 ⟨g30, (allP_cons.2 ⟨g31, (allP_cons.2 ⟨g32, (allP_cons.2 ⟨g33, allP_nil⟩)⟩)⟩)⟩)⟩)⟩)⟩)⟩)⟩)⟩) ?_
                refine W_co [] [4] [] (s' := (rcube_R ((q6_1.getD 2 0) == 0))) (by kernel_rfl) (W_ret ?_)
                exact ⟨.inl rfl, by cases h; rfl⟩
              · replace h := bif_f h g31
                refine W_reg hT ftL_nil [(3, false), (7, true), (12, true), (17, false)] [] [4] [] (s' := ⟨[(4, .c (.s (.b false)))], [], []⟩) (by kernel_rfl) (allP_cons.2 ⟨g24, (allP_cons.2 ⟨g25, (allP_cons.2 ⟨g26, (allP_cons.2 ⟨g27, (allP_cons.2 ⟨g28, (allP_cons.2 ⟨g29, (allP_cons.2 ⟨g30, (allP_cons.2 ⟨g31, allP_nil⟩)⟩)⟩)⟩)⟩)⟩)⟩)⟩) ?_
                refine W_co [] [4] [] (s' := (rcube_R false)) (by kernel_rfl) (W_ret ?_)
                exact ⟨.inl rfl, by cases h; rfl⟩
            · replace h := bif_f h g28
              refine W_reg hT ftL_nil [(3, false), (7, true), (12, false)] [] [4] [] (s' := ⟨[(4, .c (.s (.b false)))], [], []⟩) (by kernel_rfl) (allP_cons.2 ⟨g24, (allP_cons.2 ⟨g25, (allP_cons.2 ⟨g26, (allP_cons.2 ⟨g27, (allP_cons.2 ⟨g28, allP_nil⟩)⟩)⟩)⟩)⟩) ?_
              refine W_co [] [4] [] (s' := (rcube_R false)) (by kernel_rfl) (W_ret ?_)
              exact ⟨.inl rfl, by cases h; rfl⟩
          · replace h := bif_f h g25
            refine W_reg hT ftL_nil [(3, false), (7, false)] [] [4] [] (s' := ⟨[(4, .c (.s (.b false)))], [], []⟩) (by kernel_rfl) (allP_cons.2 ⟨g24, (allP_cons.2 ⟨g25, allP_nil⟩)⟩) ?_
            refine W_co [] [4] [] (s' := (rcube_R false)) (by kernel_rfl) (W_ret ?_)
            exact ⟨.inl rfl, by cases h; rfl⟩
  · rintro e s' ⟨he, rfl⟩
    refine ⟨he, fun a' w' hr => ?_⟩
    exact retS_ok tabO_mq hr (rs := [.tmp 4]) rfl (objs := []) (by kernel_rfl)
def rfraction_j1_E (a0 : UInt64) (a1 : Bool) (i6_1 : Int) (y5_7 : UInt64) : S := ⟨[(0, .c (.s (.u64 a0))), (1, .c (.s (.b a1))), (5, .c (.s (.u64 y5_7))), (6, .c (.s (.k .i64 i6_1)))], [], []⟩
def rfraction_j1_P (n : Nat) (a0 : UInt64) (a1 : Bool) (i6_1 : Int) (k_l1 : UInt64 → Int → Option (UInt32)) (r : UInt32) : S → Prop := fun s => ∃ (y5_7 : UInt64), s = rfraction_j1_E a0 a1 i6_1 y5_7 ∧ rfraction_j1 n a0 a1 i6_1 k_l1 y5_7 = some r
theorem rfraction_j1_M {n : Nat} {a0 : UInt64} {a1 : Bool} {i6_1 : Int} {k_l1 : UInt64 → Int → Option (UInt32)} {y5_7 : UInt64} {r : UInt32} (h : rfraction_j1 n a0 a1 i6_1 k_l1 y5_7 = some r) : rfraction_j1_P n a0 a1 i6_1 k_l1 r (rfraction_j1_E a0 a1 i6_1 y5_7) := ⟨y5_7, rfl, h⟩
def rfraction_j2_E (a0 : UInt64) (a1 : Bool) (y5_5 : UInt64) (i6_1 : Int) (p8_11 : Bool) : S := ⟨[(0, .c (.s (.u64 a0))), (1, .c (.s (.b a1))), (5, .c (.s (.u64 y5_5))), (6, .c (.s (.k .i64 i6_1))), (7, .c (.s (.u64 (y5_5 + (shl64 1 (36 - i6_1)))))), (8, .c (.s (.b p8_11)))], [], []⟩
def rfraction_j2_P (n : Nat) (a0 : UInt64) (a1 : Bool) (y5_5 : UInt64) (i6_1 : Int) (k_l1 : UInt64 → Int → Option (UInt32)) (r : UInt32) : S → Prop := fun s => ∃ (p8_11 : Bool), s = rfraction_j2_E a0 a1 y5_5 i6_1 p8_11 ∧ rfraction_j2 n a0 a1 y5_5 i6_1 k_l1 p8_11 = some r
theorem rfraction_j2_M {n : Nat} {a0 : UInt64} {a1 : Bool} {y5_5 : UInt64} {i6_1 : Int} {k_l1 : UInt64 → Int → Option (UInt32)} {p8_11 : Bool} {r : UInt32} (h : rfraction_j2 n a0 a1 y5_5 i6_1 k_l1 p8_11 = some r) : rfraction_j2_P n a0 a1 y5_5 i6_1 k_l1 r (rfraction_j2_E a0 a1 y5_5 i6_1 p8_11) := ⟨p8_11, rfl, h⟩
def rfraction_l1_E (a0 : UInt64) (a1 : Bool) (y5_5 : UInt64) (i6_1 : Int) : S := ⟨[(0, .c (.s (.u64 a0))), (1, .c (.s (.b a1))), (5, .c (.s (.u64 y5_5))), (6, .c (.s (.k .i64 i6_1)))], [], []⟩
def rfraction_l1_P (n : Nat) (a0 : UInt64) (a1 : Bool) (r : UInt32) (fu : Nat) : S → Prop := fun s => ∃ (y5_5 : UInt64), ∃ (i6_1 : Int), s = rfraction_l1_E a0 a1 y5_5 i6_1 ∧ rfraction_l1 n a0 a1 fu y5_5 i6_1 = some r
theorem rfraction_l1_M {n : Nat} {a0 : UInt64} {a1 : Bool} {y5_5 : UInt64} {i6_1 : Int} {r : UInt32} {fu : Nat} (h : rfraction_l1 n a0 a1 fu y5_5 i6_1 = some r) : rfraction_l1_P n a0 a1 r fu (rfraction_l1_E a0 a1 y5_5 i6_1) := ⟨y5_5, i6_1, rfl, h⟩
def rfraction_R (r : UInt32) : S := ⟨[(4, .c (.s (.u32 r)))], [], []⟩
def rfraction_ct (n : Nat) (r : UInt32) : Ct := fun args H => match args with
  | [x0, x1] => (match aU64 x0 with | some l0 => (match aBo x1 with | some l1 => some ([rfraction n l0 l1 = some r], shA H.length (.c (.s (.u32 r))), shH H.length []) | none => none) | none => none)
  | _ => none
theorem rfraction_ok (n : Nat) (r : UInt32) : FnOk Tryd.prog Tr 34 (rfraction_ct n r) := by
  refine ⟨fun args H g av objs hF hg ρ w vals hG hp ha => ?_, _, Tryd.func34, by kernel_rfl, by kernel_rfl⟩
  obtain ⟨x0, x1, rfl⟩ : ∃ x0 x1, args = [x0, x1] := by
    unfold rfraction_ct at hF; split at hF
    · exact ⟨_, _, rfl⟩
    · cases hF
  cases e0 : aU64 x0 with
  | none => simp only [rfraction_ct, e0, reduceCtorEq] at hF
  | some l0 =>
  cases e1 : aBo x1 with
  | none => simp only [rfraction_ct, e0, e1, reduceCtorEq] at hF
  | some l1 =>
  simp only [rfraction_ct, e0, e1, Option.some.injEq, Prod.mk.injEq] at hF
  obtain ⟨rfl, rfl, rfl⟩ := hF
  obtain ⟨v0, vals, rfl, k0, ha⟩ := F2.inv ha
  obtain ⟨v1, vals, rfl, k1, ha⟩ := F2.inv ha
  obtain rfl := F2.inv0 ha
  have hI : ∀ w', Kp (noB (fun _ => undef)) w w' → Tr w' := fun _ hk => Tr.keep hk.below hG
  have h : rfraction n l0 l1 = some r := hg
  have s0 := aU64_ok e0 (k0)
  have s1 := aBo_ok e1 (k1)
  have hR0 := rel0 (gv := (fun _ => undef)) (n := 30) (w := w) (args := [.c (.s (.u64 l0)), .c (.s (.b l1))]) (H := []) (gl := []) (hpL (ps := []) F2.nil) (allRo_ok rfl) (F2.cons s0 (F2.cons s1 F2.nil)) GlR.nil (by simp)
  clear ha hp hg k0 k1 e0 e1
  refine calls_W Tryd.func34 rfl rfl hR0 (Q := fun e s => (e = .ret ∨ e = .normal) ∧ s = rfraction_R r) ?_ ?_
  · clear hR0
    unfold rfraction at h
    have hT := tabO_mq
    refine W_seq ?_
    refine W_reg hT ftL_nil [] [] [0, 1] [] (s' := ⟨[(0, .c (.s (.u64 l0))), (1, .c (.s (.b l1)))], [], []⟩) (by kernel_rfl) allP_nil ?_
    refine W_seq ?_
    refine W_reg hT ftL_nil [] [] [0, 1, 5] [] (s' := ⟨[(0, .c (.s (.u64 l0))), (1, .c (.s (.b l1))), (5, .c (.s (.u64 0)))], [], []⟩) (by kernel_rfl) allP_nil ?_
    refine W_seq ?_
    refine W_seq ?_
    refine W_reg hT ftL_nil [] [] [0, 1, 5, 6] [] (s' := ⟨[(0, .c (.s (.u64 l0))), (1, .c (.s (.b l1))), (5, .c (.s (.u64 0))), (6, .c (.s (.k .i64 0)))], [], []⟩) (by kernel_rfl) allP_nil ?_
    refine W_block ?_
    refine W_co [] [0, 1, 5, 6] [] (s' := (rfraction_l1_E l0 l1 0 0)) (by kernel_rfl) (W_lp ((rfraction_l1_P n l0 l1 r)) n (rfraction_l1_M h) ?_)
    rintro fu_l1 _ ⟨y5_5, i6_1, rfl, h⟩
    cases fu_l1 with
    | zero => cases h
    | succ fu_l1 =>
      refine ⟨fu_l1, rfl, ?_⟩
      rw [rfraction_l1] at h
      refine W_seq ?_
      refine W_seq ?_
      refine W_reg hT ftL_nil [] [] [0, 1, 5, 6, 10] [] (s' := ⟨[(0, .c (.s (.u64 l0))), (1, .c (.s (.b l1))), (5, .c (.s (.u64 y5_5))), (6, .c (.s (.k .i64 i6_1))), (10, .c (.s (.b (decide (i6_1 < (37 : Int))))))], [], []⟩) (by kernel_rfl) allP_nil ?_
      refine W_cond (b := (decide (i6_1 < (37 : Int)))) (by kernel_rfl) (fun g9 => ?_) (fun g9 => ?_)
      · replace h := bif_t h g9
        refine W_co [] [0, 1, 5, 6] [] (s' := ⟨[(0, .c (.s (.u64 l0))), (1, .c (.s (.b l1))), (5, .c (.s (.u64 y5_5))), (6, .c (.s (.k .i64 i6_1)))], [], []⟩) (by kernel_rfl) (W_skip ?_)
        refine W_join (rfraction_j1_P n l0 l1 i6_1 (rfraction_l1 n l0 l1 fu_l1) r) ?_ ?_
        · rintro _ ⟨y5_7, rfl, h⟩
          unfold rfraction_j1 at h
          obtain ⟨g1, h⟩ := gd_some h
          refine W_reg hT ftL_nil [] [] [0, 1, 5, 6] [] (s' := (rfraction_l1_E l0 l1 y5_7 (i6_1 + 1))) (by kernel_rfl) (allP_cons.2 ⟨g1, allP_nil⟩) ?_
          exact rfraction_l1_M h
        · refine W_block ?_
          refine W_seq ?_
          obtain ⟨g2, h⟩ := gd_some h
          obtain ⟨g3, h⟩ := gd_some h
          refine W_reg hT ftL_nil [] [] [0, 1, 5, 6, 7] [] (s' := ⟨[(0, .c (.s (.u64 l0))), (1, .c (.s (.b l1))), (5, .c (.s (.u64 y5_5))), (6, .c (.s (.k .i64 i6_1))), (7, .c (.s (.u64 (y5_5 + (shl64 1 (36 - i6_1))))))], [], []⟩) (by kernel_rfl) (allP_cons.2 ⟨g2, (allP_cons.2 ⟨g3, allP_nil⟩)⟩) ?_
          refine W_seq ?_
          refine W_reg hT ftL_nil [] [] [0, 1, 5, 6, 7] [] (s' := ⟨[(0, .c (.s (.u64 l0))), (1, .c (.s (.b l1))), (5, .c (.s (.u64 y5_5))), (6, .c (.s (.k .i64 i6_1))), (7, .c (.s (.u64 (y5_5 + (shl64 1 (36 - i6_1))))))], [], []⟩) (by kernel_rfl) allP_nil ?_
          refine W_join (rfraction_j2_P n l0 l1 y5_5 i6_1 (rfraction_l1 n l0 l1 fu_l1) r) ?_ ?_
          · rintro _ ⟨p8_11, rfl, h⟩
            unfold rfraction_j2 at h
            refine W_seq ?_
            refine W_reg hT ftL_nil [] [] [0, 1, 5, 6, 7, 25] [] (s' := ⟨[(0, .c (.s (.u64 l0))), (1, .c (.s (.b l1))), (5, .c (.s (.u64 y5_5))), (6, .c (.s (.k .i64 i6_1))), (7, .c (.s (.u64 (y5_5 + (shl64 1 (36 - i6_1)))))), (25, .c (.s (.b p8_11)))], [], []⟩) (by kernel_rfl) allP_nil ?_
            refine W_cond (b := p8_11) (by kernel_rfl) (fun g4 => ?_) (fun g4 => ?_)
            · replace h := bif_t h g4
              refine W_reg hT ftL_nil [] [] [0, 1, 5, 6] [] (s' := (rfraction_j1_E l0 l1 i6_1 (y5_5 + (shl64 1 (36 - i6_1))))) (by kernel_rfl) allP_nil ?_
              exact rfraction_j1_M h
            · replace h := bif_f h g4
              refine W_co [] [0, 1, 5, 6] [] (s' := (rfraction_j1_E l0 l1 i6_1 y5_5)) (by kernel_rfl) (W_skip ?_)
              exact rfraction_j1_M h
          · refine W_seq ?_
            refine W_reg hT ftL_nil [] [] [0, 1, 5, 6, 7, 18] [] (s' := ⟨[(0, .c (.s (.u64 l0))), (1, .c (.s (.b l1))), (5, .c (.s (.u64 y5_5))), (6, .c (.s (.k .i64 i6_1))), (7, .c (.s (.u64 (y5_5 + (shl64 1 (36 - i6_1)))))), (18, .c (.s (.b l1)))], [], []⟩) (by kernel_rfl) allP_nil ?_
            refine W_cond (b := l1) (by kernel_rfl) (fun g7 => ?_) (fun g7 => ?_)
            · replace h := bif_t h g7
              obtain ⟨r21_2, g5, h⟩ := bind_some' h
              refine W_reg hT (ftL_cons (k := 2) (f := 39) (F := (rcube_ct n r21_2)) (rcube_ok n r21_2) (fun _ _ => True.intro) ftL_nil) [] [] [0, 1, 5, 6, 7, 8] [] (s' := (rfraction_j2_E l0 l1 y5_5 i6_1 r21_2)) (by kernel_rfl) (allP_cons.2 ⟨g5, allP_nil⟩) ?_
              exact rfraction_j2_M h
            · replace h := bif_f h g7
              obtain ⟨r24_2, g6, h⟩ := bind_some' h
              refine W_reg hT (ftL_cons (k := 2) (f := 40) (F := (rsquare_ct n r24_2)) (rsquare_ok n r24_2) (fun _ _ => True.intro) ftL_nil) [] [] [0, 1, 5, 6, 7, 8] [] (s' := (rfraction_j2_E l0 l1 y5_5 i6_1 r24_2)) (by kernel_rfl) (allP_cons.2 ⟨g6, allP_nil⟩) ?_
              exact rfraction_j2_M h
      · replace h := bif_f h g9
        refine W_co [] [5] [] (s' := ⟨[(5, .c (.s (.u64 y5_5)))], [], []⟩) (by kernel_rfl) (W_exit ?_)
        refine W_seq ?_
        obtain ⟨g8, h⟩ := gd_some h
        refine W_reg hT ftL_nil [] [] [4] [] (s' := ⟨[(4, .c (.s (.u32 ((y5_5 % (4294967296 : UInt64)).toUInt32))))], [], []⟩) (by kernel_rfl) (allP_cons.2 ⟨g8, allP_nil⟩) ?_
        refine W_co [] [4] [] (s' := (rfraction_R ((y5_5 % (4294967296 : UInt64)).toUInt32))) (by kernel_rfl) (W_ret ?_)
        exact ⟨.inl rfl, by cases h; rfl⟩
  · rintro e s' ⟨he, rfl⟩
    refine ⟨he, fun a' w' hr => ?_⟩
    exact retS_ok tabO_mq hr (rs := [.tmp 4]) rfl (objs := []) (by kernel_rfl)
def rconstants_l1_E (r4 : List UInt64) (w2_1 : List UInt32) (i3_1 : Int) : S := ⟨[(1, .c (.wh 0)), (2, .c (.wh 1)), (3, .c (.s (.k .i64 i3_1)))], [], [⟨.row, 61, 1, r4.length, .q r4⟩, ⟨.row, 28, 1, w2_1.length, .w w2_1⟩]⟩
def rconstants_l1_P (n : Nat) (r4 : List UInt64) (r : List UInt32) (fu : Nat) : S → Prop := fun s => ∃ (w2_1 : List UInt32), ∃ (i3_1 : Int), s = rconstants_l1_E r4 w2_1 i3_1 ∧ rconstants_l1 n r4 fu w2_1 i3_1 = some r
theorem rconstants_l1_M {n : Nat} {r4 : List UInt64} {w2_1 : List UInt32} {i3_1 : Int} {r : List UInt32} {fu : Nat} (h : rconstants_l1 n r4 fu w2_1 i3_1 = some r) : rconstants_l1_P n r4 r fu (rconstants_l1_E r4 w2_1 i3_1) := ⟨w2_1, i3_1, rfl, h⟩
def rconstants_R (r : List UInt32) : S := ⟨[(0, .c (.wh 0))], [], [⟨.row, 28, 1, r.length, .w r⟩]⟩
def rconstants_ct (n : Nat) (r : List UInt32) : Ct := fun args H => match args with
  | [] => some ([rconstants n = some r], shA H.length (.c (.wh 0)), shH H.length [⟨.row, 28, 1, r.length, .w r⟩])
  | _ => none
theorem rconstants_ok (n : Nat) (r : List UInt32) : FnOk Tryd.prog Tr 23 (rconstants_ct n r) := by
  refine ⟨fun args H g av objs hF hg ρ w vals hG hp ha => ?_, _, Tryd.func23, by kernel_rfl, by kernel_rfl⟩
  obtain rfl : args = [] := by
    unfold rconstants_ct at hF; split at hF
    · exact rfl
    · cases hF
  simp only [rconstants_ct, Option.some.injEq, Prod.mk.injEq] at hF
  obtain ⟨rfl, rfl, rfl⟩ := hF
  obtain rfl := F2.inv0 ha
  have hI : ∀ w', Kp (noB (fun _ => undef)) w w' → Tr w' := fun _ hk => Tr.keep hk.below hG
  have h : rconstants n = some r := hg
  have hR0 := rel0 (gv := (fun _ => undef)) (n := 18) (w := w) (args := []) (H := []) (gl := []) (hpL (ps := []) F2.nil) (allRo_ok rfl) F2.nil GlR.nil (by simp)
  clear ha hp hg 
  refine calls_W Tryd.func23 rfl rfl hR0 (Q := fun e s => (e = .ret ∨ e = .normal) ∧ s = rconstants_R r) ?_ ?_
  · clear hR0
    unfold rconstants at h
    have hT := tabO_mq
    refine W_seq ?_
    refine W_reg hT ftL_nil [] [] [] [] (s' := ⟨[], [], []⟩) (by kernel_rfl) allP_nil ?_
    refine W_seq ?_
    obtain ⟨r4, g1, h⟩ := bind_some' h
    refine W_reg hT (ftL_cons (k := 0) (f := 33) (F := (rprimes_ct n r4)) (rprimes_ok n r4) (fun _ _ => True.intro) ftL_nil) [] [] [1] [0] (s' := ⟨[(1, .c (.wh 0))], [], [⟨.row, 61, 1, r4.length, .q r4⟩]⟩) (by kernel_rfl) (allP_cons.2 ⟨g1, allP_nil⟩) ?_
    refine W_seq ?_
    refine W_reg hT ftL_nil [] [] [1, 2] [0] (s' := ⟨[(1, .c (.wh 0)), (2, .c (.nils))], [], [⟨.row, 61, 1, r4.length, .q r4⟩]⟩) (by kernel_rfl) allP_nil ?_
    refine W_seq ?_
    refine W_seq ?_
    refine W_reg hT ftL_nil [] [] [1, 2, 3] [0] (s' := ⟨[(1, .c (.wh 0)), (2, .c (.nils)), (3, .c (.s (.k .i64 0)))], [], [⟨.row, 61, 1, r4.length, .q r4⟩]⟩) (by kernel_rfl) allP_nil ?_
    refine W_block ?_
    refine W_co [.nil 2 28 1 (.w [])] [1, 2, 3] [0, 1] (s' := (rconstants_l1_E r4 [] 0)) (by kernel_rfl) (W_lp ((rconstants_l1_P n r4 r)) n (rconstants_l1_M h) ?_)
    rintro fu_l1 _ ⟨w2_1, i3_1, rfl, h⟩
    cases fu_l1 with
    | zero => cases h
    | succ fu_l1 =>
      refine ⟨fu_l1, rfl, ?_⟩
      rw [rconstants_l1] at h
      refine W_seq ?_
      refine W_seq ?_
      refine W_reg hT ftL_nil [] [] [1, 2, 3, 6] [0, 1] (s' := ⟨[(1, .c (.wh 0)), (2, .c (.wh 1)), (3, .c (.s (.k .i64 i3_1))), (6, .c (.s (.b (decide (i3_1 < (64 : Int))))))], [], [⟨.row, 61, 1, r4.length, .q r4⟩, ⟨.row, 28, 1, w2_1.length, .w w2_1⟩]⟩) (by kernel_rfl) allP_nil ?_
      refine W_cond (b := (decide (i3_1 < (64 : Int)))) (by kernel_rfl) (fun g7 => ?_) (fun g7 => ?_)
      · replace h := bif_t h g7
        refine W_co [] [1, 2, 3] [0, 1] (s' := ⟨[(1, .c (.wh 0)), (2, .c (.wh 1)), (3, .c (.s (.k .i64 i3_1)))], [], [⟨.row, 61, 1, r4.length, .q r4⟩, ⟨.row, 28, 1, w2_1.length, .w w2_1⟩]⟩) (by kernel_rfl) (W_skip ?_)
        refine W_seq ?_
        refine W_block ?_
        obtain ⟨g2, h⟩ := gd_some h
        obtain ⟨g3, h⟩ := gd_some h
        obtain ⟨r14_2, g4, h⟩ := bind_some' h
        obtain ⟨g5, h⟩ := gd_some h
        refine W_reg hT (ftL_cons (k := 5) (f := 34) (F := (rfraction_ct n r14_2)) (rfraction_ok n r14_2) (fun _ _ => True.intro) ftL_nil) [] [] [1, 2, 3] [0, 3] (s' := ⟨[(1, .c (.wh 0)), (2, .c (.wh 1)), (3, .c (.s (.k .i64 i3_1)))], [], [⟨.row, 61, 1, r4.length, .q r4⟩, ⟨.row, 28, 1, (w2_1 ++ [r14_2]).length, .w (w2_1 ++ [r14_2])⟩]⟩) (by kernel_rfl) (allP_cons.2 ⟨g2, (allP_cons.2 ⟨g3, (allP_cons.2 ⟨g4, (allP_cons.2 ⟨g5, allP_nil⟩)⟩)⟩)⟩) ?_
        obtain ⟨g6, h⟩ := gd_some h
        refine W_reg hT ftL_nil [] [] [1, 2, 3] [0, 1] (s' := (rconstants_l1_E r4 (w2_1 ++ [r14_2]) (i3_1 + 1))) (by kernel_rfl) (allP_cons.2 ⟨g6, allP_nil⟩) ?_
        exact rconstants_l1_M h
      · replace h := bif_f h g7
        refine W_co [] [2] [1] (s' := ⟨[(2, .c (.wh 0))], [], [⟨.row, 28, 1, w2_1.length, .w w2_1⟩]⟩) (by kernel_rfl) (W_exit ?_)
        refine W_seq ?_
        refine W_reg hT ftL_nil [] [] [0] [0] (s' := ⟨[(0, .c (.wh 0))], [], [⟨.row, 28, 1, w2_1.length, .w w2_1⟩]⟩) (by kernel_rfl) allP_nil ?_
        refine W_co [] [0] [0] (s' := (rconstants_R w2_1)) (by kernel_rfl) (W_ret ?_)
        exact ⟨.inl rfl, by cases h; rfl⟩
  · rintro e s' ⟨he, rfl⟩
    refine ⟨he, fun a' w' hr => ?_⟩
    exact retS_ok tabO_mq hr (rs := [.tmp 0]) rfl (objs := [0]) (by kernel_rfl)
def refbegin_l1_E (r4 : List UInt64) (w2_1 : List UInt32) (i3_1 : Int) : S := ⟨[(0, .c (.pt 0 0)), (1, .c (.wh 1)), (2, .c (.pt 2 0)), (3, .c (.s (.k .i64 i3_1)))], [], [⟨.blk, 29, 1, 8, .w (List.replicate 8 0)⟩, ⟨.row, 61, 1, r4.length, .q r4⟩, ⟨.blk, 29, 1, 8, .w w2_1⟩]⟩
def refbegin_l1_P (n : Nat) (r4 : List UInt64) (r : List UInt32) (fu : Nat) : S → Prop := fun s => ∃ (w2_1 : List UInt32), ∃ (i3_1 : Int), s = refbegin_l1_E r4 w2_1 i3_1 ∧ refbegin_l1 n r4 fu w2_1 i3_1 = some r
theorem refbegin_l1_M {n : Nat} {r4 : List UInt64} {w2_1 : List UInt32} {i3_1 : Int} {r : List UInt32} {fu : Nat} (h : refbegin_l1 n r4 fu w2_1 i3_1 = some r) : refbegin_l1_P n r4 r fu (refbegin_l1_E r4 w2_1 i3_1) := ⟨w2_1, i3_1, rfl, h⟩
def refbegin_R (r : List UInt32) : S := ⟨[(0, .c (.pt 0 0))], [], [⟨.blk, 29, 1, 8, .w r⟩]⟩
def refbegin_ct (n : Nat) (r : List UInt32) : Ct := fun args H => match args with
  | [] => some ([refbegin n = some r], shA H.length (.g 8 (.w r)), shH H.length [])
  | _ => none
theorem refbegin_ok (n : Nat) (r : List UInt32) : FnOk Tryd.prog Tr 24 (refbegin_ct n r) := by
  refine ⟨fun args H g av objs hF hg ρ w vals hG hp ha => ?_, _, Tryd.func24, by kernel_rfl, by kernel_rfl⟩
  obtain rfl : args = [] := by
    unfold refbegin_ct at hF; split at hF
    · exact rfl
    · cases hF
  simp only [refbegin_ct, Option.some.injEq, Prod.mk.injEq] at hF
  obtain ⟨rfl, rfl, rfl⟩ := hF
  obtain rfl := F2.inv0 ha
  have hI : ∀ w', Kp (noB (fun _ => undef)) w w' → Tr w' := fun _ hk => Tr.keep hk.below hG
  have h : refbegin n = some r := hg
  have hR0 := rel0 (gv := (fun _ => undef)) (n := 17) (w := w) (args := []) (H := []) (gl := []) (hpL (ps := []) F2.nil) (allRo_ok rfl) F2.nil GlR.nil (by simp)
  clear ha hp hg 
  refine calls_W Tryd.func24 rfl rfl hR0 (Q := fun e s => (e = .ret ∨ e = .normal) ∧ s = refbegin_R r) ?_ ?_
  · clear hR0
    unfold refbegin at h
    have hT := tabO_mq
    refine W_seq ?_
    refine W_reg hT ftL_nil [] [] [0] [0] (s' := ⟨[(0, .c (.pt 0 0))], [], [⟨.blk, 29, 1, 8, .w (List.replicate 8 0)⟩]⟩) (by kernel_rfl) allP_nil ?_
    refine W_seq ?_
    obtain ⟨r4, g1, h⟩ := bind_some' h
    refine W_reg hT (ftL_cons (k := 0) (f := 33) (F := (rprimes_ct n r4)) (rprimes_ok n r4) (fun _ _ => True.intro) ftL_nil) [] [] [0, 1] [0, 1] (s' := ⟨[(0, .c (.pt 0 0)), (1, .c (.wh 1))], [], [⟨.blk, 29, 1, 8, .w (List.replicate 8 0)⟩, ⟨.row, 61, 1, r4.length, .q r4⟩]⟩) (by kernel_rfl) (allP_cons.2 ⟨g1, allP_nil⟩) ?_
    refine W_seq ?_
    refine W_reg hT ftL_nil [] [] [0, 1, 2] [0, 1, 2] (s' := ⟨[(0, .c (.pt 0 0)), (1, .c (.wh 1)), (2, .c (.pt 2 0))], [], [⟨.blk, 29, 1, 8, .w (List.replicate 8 0)⟩, ⟨.row, 61, 1, r4.length, .q r4⟩, ⟨.blk, 29, 1, 8, .w (List.replicate 8 0)⟩]⟩) (by kernel_rfl) allP_nil ?_
    refine W_seq ?_
    refine W_seq ?_
    refine W_reg hT ftL_nil [] [] [0, 1, 2, 3] [0, 1, 2] (s' := ⟨[(0, .c (.pt 0 0)), (1, .c (.wh 1)), (2, .c (.pt 2 0)), (3, .c (.s (.k .i64 0)))], [], [⟨.blk, 29, 1, 8, .w (List.replicate 8 0)⟩, ⟨.row, 61, 1, r4.length, .q r4⟩, ⟨.blk, 29, 1, 8, .w (List.replicate 8 0)⟩]⟩) (by kernel_rfl) allP_nil ?_
    refine W_block ?_
    refine W_co [] [0, 1, 2, 3] [0, 1, 2] (s' := (refbegin_l1_E r4 (List.replicate 8 0) 0)) (by kernel_rfl) (W_lp ((refbegin_l1_P n r4 r)) n (refbegin_l1_M h) ?_)
    rintro fu_l1 _ ⟨w2_1, i3_1, rfl, h⟩
    cases fu_l1 with
    | zero => cases h
    | succ fu_l1 =>
      refine ⟨fu_l1, rfl, ?_⟩
      rw [refbegin_l1] at h
      refine W_seq ?_
      refine W_seq ?_
      refine W_reg hT ftL_nil [] [] [0, 1, 2, 3, 6] [0, 1, 2] (s' := ⟨[(0, .c (.pt 0 0)), (1, .c (.wh 1)), (2, .c (.pt 2 0)), (3, .c (.s (.k .i64 i3_1))), (6, .c (.s (.b (decide (i3_1 < (8 : Int))))))], [], [⟨.blk, 29, 1, 8, .w (List.replicate 8 0)⟩, ⟨.row, 61, 1, r4.length, .q r4⟩, ⟨.blk, 29, 1, 8, .w w2_1⟩]⟩) (by kernel_rfl) allP_nil ?_
      refine W_cond (b := (decide (i3_1 < (8 : Int)))) (by kernel_rfl) (fun g8 => ?_) (fun g8 => ?_)
      · replace h := bif_t h g8
        refine W_co [] [0, 1, 2, 3] [0, 1, 2] (s' := ⟨[(0, .c (.pt 0 0)), (1, .c (.wh 1)), (2, .c (.pt 2 0)), (3, .c (.s (.k .i64 i3_1)))], [], [⟨.blk, 29, 1, 8, .w (List.replicate 8 0)⟩, ⟨.row, 61, 1, r4.length, .q r4⟩, ⟨.blk, 29, 1, 8, .w w2_1⟩]⟩) (by kernel_rfl) (W_skip ?_)
        refine W_seq ?_
        refine W_block ?_
        obtain ⟨g2, h⟩ := gd_some h
        obtain ⟨g3, h⟩ := gd_some h
        obtain ⟨r14_2, g4, h⟩ := bind_some' h
        obtain ⟨g5, h⟩ := gd_some h
        obtain ⟨g6, h⟩ := gd_some h
        refine W_reg hT (ftL_cons (k := 5) (f := 34) (F := (rfraction_ct n r14_2)) (rfraction_ok n r14_2) (fun _ _ => True.intro) ftL_nil) [] [] [0, 1, 2, 3] [0, 1, 2] (s' := ⟨[(0, .c (.pt 0 0)), (1, .c (.wh 1)), (2, .c (.pt 2 0)), (3, .c (.s (.k .i64 i3_1)))], [], [⟨.blk, 29, 1, 8, .w (List.replicate 8 0)⟩, ⟨.row, 61, 1, r4.length, .q r4⟩, ⟨.blk, 29, 1, 8, .w (w2_1.set i3_1.toNat r14_2)⟩]⟩) (by kernel_rfl) (allP_cons.2 ⟨g2, (allP_cons.2 ⟨g3, (allP_cons.2 ⟨g4, (allP_cons.2 ⟨g5, (allP_cons.2 ⟨g6, allP_nil⟩)⟩)⟩)⟩)⟩) ?_
        obtain ⟨g7, h⟩ := gd_some h
        refine W_reg hT ftL_nil [] [] [0, 1, 2, 3] [0, 1, 2] (s' := (refbegin_l1_E r4 (w2_1.set i3_1.toNat r14_2) (i3_1 + 1))) (by kernel_rfl) (allP_cons.2 ⟨g7, allP_nil⟩) ?_
        exact refbegin_l1_M h
      · replace h := bif_f h g8
        refine W_co [] [0, 2] [0, 2] (s' := ⟨[(0, .c (.pt 0 0)), (2, .c (.pt 1 0))], [], [⟨.blk, 29, 1, 8, .w (List.replicate 8 0)⟩, ⟨.blk, 29, 1, 8, .w w2_1⟩]⟩) (by kernel_rfl) (W_exit ?_)
        refine W_seq ?_
        refine W_reg hT ftL_nil [] [] [0] [0] (s' := ⟨[(0, .c (.pt 0 0))], [], [⟨.blk, 29, 1, 8, .w w2_1⟩]⟩) (by kernel_rfl) allP_nil ?_
        refine W_co [] [0] [0] (s' := (refbegin_R w2_1)) (by kernel_rfl) (W_ret ?_)
        exact ⟨.inl rfl, by cases h; rfl⟩
  · rintro e s' ⟨he, rfl⟩
    refine ⟨he, fun a' w' hr => ?_⟩
    exact retS_ok tabO_mq hr (rs := [.cell 0 29]) rfl (objs := []) (by kernel_rfl)
def made_R (r : List UInt32 × UInt32 × UInt32 × UInt32 × UInt32 × UInt32 × UInt32 × UInt32 × UInt32) : S := ⟨[(0, .c (.pt 0 0))], [], [⟨.blk, 31, 1, 9, .c [.wh 1, .s (.u32 r.2.1), .s (.u32 r.2.2.1), .s (.u32 r.2.2.2.1), .s (.u32 r.2.2.2.2.1), .s (.u32 r.2.2.2.2.2.1), .s (.u32 r.2.2.2.2.2.2.1), .s (.u32 r.2.2.2.2.2.2.2.1), .s (.u32 r.2.2.2.2.2.2.2.2)]⟩, ⟨.row, 28, 1, r.1.length, .w r.1⟩]⟩
def made_ct (n : Nat) (r : List UInt32 × UInt32 × UInt32 × UInt32 × UInt32 × UInt32 × UInt32 × UInt32 × UInt32) : Ct := fun args H => match args with
  | [] => some ([made n = some r], shA H.length (.g 9 (.c [.wh 0, .s (.u32 r.2.1), .s (.u32 r.2.2.1), .s (.u32 r.2.2.2.1), .s (.u32 r.2.2.2.2.1), .s (.u32 r.2.2.2.2.2.1), .s (.u32 r.2.2.2.2.2.2.1), .s (.u32 r.2.2.2.2.2.2.2.1), .s (.u32 r.2.2.2.2.2.2.2.2)])), shH H.length [⟨.row, 28, 1, r.1.length, .w r.1⟩])
  | _ => none
theorem made_ok (n : Nat) (r : List UInt32 × UInt32 × UInt32 × UInt32 × UInt32 × UInt32 × UInt32 × UInt32 × UInt32) : FnOk Tryd.prog Tr 13 (made_ct n r) := by
  refine ⟨fun args H g av objs hF hg ρ w vals hG hp ha => ?_, _, Tryd.func13, by kernel_rfl, by kernel_rfl⟩
  obtain rfl : args = [] := by
    unfold made_ct at hF; split at hF
    · exact rfl
    · cases hF
  simp only [made_ct, Option.some.injEq, Prod.mk.injEq] at hF
  obtain ⟨rfl, rfl, rfl⟩ := hF
  obtain rfl := F2.inv0 ha
  have hI : ∀ w', Kp (noB (fun _ => undef)) w w' → Tr w' := fun _ hk => Tr.keep hk.below hG
  have h : made n = some r := hg
  have hR0 := rel0 (gv := (fun _ => undef)) (n := 4) (w := w) (args := []) (H := []) (gl := []) (hpL (ps := []) F2.nil) (allRo_ok rfl) F2.nil GlR.nil (by simp)
  clear ha hp hg 
  refine calls_W Tryd.func13 rfl rfl hR0 (Q := fun e s => (e = .ret ∨ e = .normal) ∧ s = made_R r) ?_ ?_
  · clear hR0
    unfold made at h
    have hT := tabO_mq
    refine W_seq ?_
    refine W_reg hT ftL_nil [] [] [0] [0] (s' := ⟨[(0, .c (.pt 0 0))], [], [⟨.blk, 31, 1, 9, .c [.nils, .s (.u32 0), .s (.u32 0), .s (.u32 0), .s (.u32 0), .s (.u32 0), .s (.u32 0), .s (.u32 0), .s (.u32 0)]⟩]⟩) (by kernel_rfl) allP_nil ?_
    refine W_seq ?_
    obtain ⟨r1, g1, h⟩ := bind_some' h
    obtain ⟨r2, g2, h⟩ := bind_some' h
    refine W_reg hT (ftL_cons (k := 0) (f := 23) (F := (rconstants_ct n r1)) (rconstants_ok n r1) (fun _ _ => True.intro) (ftL_cons (k := 1) (f := 24) (F := (refbegin_ct n r2)) (refbegin_ok n r2) (fun _ _ => True.intro) ftL_nil)) [] [] [0] [0, 1] (s' := ⟨[(0, .c (.pt 0 0))], [], [⟨.blk, 31, 1, 9, .c [.wh 1, .s (.u32 (r2.getD 0 0)), .s (.u32 (r2.getD 1 0)), .s (.u32 (r2.getD 2 0)), .s (.u32 (r2.getD 3 0)), .s (.u32 (r2.getD 4 0)), .s (.u32 (r2.getD 5 0)), .s (.u32 (r2.getD 6 0)), .s (.u32 (r2.getD 7 0))]⟩, ⟨.row, 28, 1, r1.length, .w r1⟩]⟩) (by kernel_rfl) (allP_cons.2 ⟨g1, (allP_cons.2 ⟨g2, allP_nil⟩)⟩) ?_
    refine W_co [] [0] [0, 1] (s' := (made_R (r1, (r2.getD 0 0), (r2.getD 1 0), (r2.getD 2 0), (r2.getD 3 0), (r2.getD 4 0), (r2.getD 5 0), (r2.getD 6 0), (r2.getD 7 0)))) (by kernel_rfl) (W_ret ?_)
    exact ⟨.inl rfl, by cases h; rfl⟩
  · rintro e s' ⟨he, rfl⟩
    refine ⟨he, fun a' w' hr => ?_⟩
    exact retS_ok tabO_mq hr (rs := [.cell 0 31]) rfl (objs := [1]) (by kernel_rfl)
end Go.Proofs.YtamddohbpdbdmaaDoor
end
section
set_option linter.unusedVariables false
set_option linter.unusedSimpArgs false
namespace Go.Proofs.YtamddohbpdbdmaaDoor
open Go.RowKit Go.Ch Go.Sx
def tabL_mr : List (TypeId × Ti) := [(5, ⟨.int .u8, 1, 1, true, some [.int .u8]⟩),
  (22, ⟨.sl 5, 1, 24, false, some [.nils]⟩),
  (27, ⟨.sl 28, 1, 24, false, some [.nils]⟩),
  (28, ⟨.int .u32, 1, 4, true, some [.int .u32]⟩),
  (29, ⟨.arr 8 28, 8, 32, true, some [.int .u32, .int .u32, .int .u32, .int .u32, .int .u32, .int .u32, .int .u32, .int .u32]⟩),
  (31, ⟨.st [(27, 0), (29, 1)], 9, 56, false, some [.nils, .int .u32, .int .u32, .int .u32, .int .u32, .int .u32, .int .u32, .int .u32, .int .u32]⟩),
  (54, ⟨.arr 64 5, 64, 64, true, some [.int .u8, .int .u8, .int .u8, .int .u8, .int .u8, .int .u8, .int .u8, .int .u8, .int .u8, .int .u8, .int .u8, .int .u8, .int .u8, .int .u8, .int .u8, .int .u8, .int .u8, .int .u8, .int .u8, .int .u8, .int .u8, .int .u8, .int .u8, .int .u8, .int .u8, .int .u8, .int .u8, .int .u8, .int .u8, .int .u8, .int .u8, .int .u8, .int .u8, .int .u8, .int .u8, .int .u8, .int .u8, .int .u8, .int .u8, .int .u8, .int .u8, .int .u8, .int .u8, .int .u8, .int .u8, .int .u8, .int .u8, .int .u8, .int .u8, .int .u8, .int .u8, .int .u8, .int .u8, .int .u8, .int .u8, .int .u8, .int .u8, .int .u8, .int .u8, .int .u8, .int .u8, .int .u8, .int .u8, .int .u8]⟩)]
def tab_mr : Tab := fun t => (tabL_mr).lookup t
theorem tabE_mr : (tabL_mr.map fun p => tiOf Tryd.prog p.1) = tabL_mr.map fun p => some p.2 := by kernel_rfl
theorem tabO_mr : TabOk Tryd.prog tab_mr := tab_of tabE_mr
def refsum_l2 (n : Nat) (a0_0 : List UInt32) (a0_1_0 : UInt32) (a0_1_1 : UInt32) (a0_1_2 : UInt32) (a0_1_3 : UInt32) (a0_1_4 : UInt32) (a0_1_5 : UInt32) (a0_1_6 : UInt32) (a0_1_7 : UInt32) (a1 : List UInt8) (w6_2 : List UInt32) (i7_2 : Int) (k_l1 : (List UInt32) → Int → Option (List UInt8)) : Nat → List UInt8 → Int → Option (List UInt8)
  | 0, _, _ => none
  | fu_l2 + 1, l8_8, i9_8 =>
    bif (decide (i9_8 < (64 : Int))) then
      gd (okI .i64 (i7_2 + i9_8)) <|
      gd (0 ≤ (i7_2 + i9_8)) <|
      gd ((i7_2 + i9_8) < (((([] ++ a1) ++ (tailOf (((a1.length : Nat) : Int)).toNat)).length : Nat) : Int)) <|
      gd (0 ≤ i9_8) <|
      gd (i9_8 < (64 : Int)) <|
      gd (okI .i64 (i9_8 + 1)) <|
      (refsum_l2 n a0_0 a0_1_0 a0_1_1 a0_1_2 a0_1_3 a0_1_4 a0_1_5 a0_1_6 a0_1_7 a1 w6_2 i7_2 k_l1 fu_l2) (l8_8.set i9_8.toNat ((([] ++ a1) ++ (tailOf (((a1.length : Nat) : Int)).toNat)).getD ((i7_2 + i9_8).toNat) 0)) (i9_8 + 1)
    else
      gd ((a0_0).length = 64) <|
      gd (okI .i64 (i7_2 + 64)) <|
      k_l1 (pressL a0_0 w6_2 l8_8) (i7_2 + 64)
def refsum_l3 (n : Nat) (w6_2 : List UInt32) : Nat → List UInt8 → Int → Option (List UInt8)
  | 0, _, _ => none
  | fu_l3 + 1, l10_2, i11_2 =>
    bif (decide (i11_2 < (8 : Int))) then
      gd (0 ≤ i11_2) <|
      gd (i11_2 < (8 : Int)) <|
      gd ((16777216 : UInt32) ≠ 0) <|
      gd (0 ≤ i11_2) <|
      gd (i11_2 < (8 : Int)) <|
      gd ((65536 : UInt32) ≠ 0) <|
      gd (0 ≤ i11_2) <|
      gd (i11_2 < (8 : Int)) <|
      gd ((256 : UInt32) ≠ 0) <|
      gd (0 ≤ i11_2) <|
      gd (i11_2 < (8 : Int)) <|
      gd (rmB (l10_2.length + 4) 1) <|
      gd (okI .i64 (i11_2 + 1)) <|
      (refsum_l3 n w6_2 fu_l3) (l10_2 ++ [((w6_2.getD i11_2.toNat 0) / (16777216 : UInt32)).toUInt8, ((w6_2.getD i11_2.toNat 0) / (65536 : UInt32)).toUInt8, ((w6_2.getD i11_2.toNat 0) / (256 : UInt32)).toUInt8, (w6_2.getD i11_2.toNat 0).toUInt8]) (i11_2 + 1)
    else
      some l10_2
def refsum_l1 (n : Nat) (a0_0 : List UInt32) (a0_1_0 : UInt32) (a0_1_1 : UInt32) (a0_1_2 : UInt32) (a0_1_3 : UInt32) (a0_1_4 : UInt32) (a0_1_5 : UInt32) (a0_1_6 : UInt32) (a0_1_7 : UInt32) (a1 : List UInt8) : Nat → List UInt32 → Int → Option (List UInt8)
  | 0, _, _ => none
  | fu_l1 + 1, w6_2, i7_2 =>
    bif (decide (i7_2 < (((([] ++ a1) ++ (tailOf (((a1.length : Nat) : Int)).toNat)).length : Nat) : Int))) then
      refsum_l2 n a0_0 a0_1_0 a0_1_1 a0_1_2 a0_1_3 a0_1_4 a0_1_5 a0_1_6 a0_1_7 a1 w6_2 i7_2 (refsum_l1 n a0_0 a0_1_0 a0_1_1 a0_1_2 a0_1_3 a0_1_4 a0_1_5 a0_1_6 a0_1_7 a1 fu_l1) n (List.replicate 64 0) 0
    else
      refsum_l3 n w6_2 n [] 0
def refsum (n : Nat) (a0_0 : List UInt32) (a0_1_0 : UInt32) (a0_1_1 : UInt32) (a0_1_2 : UInt32) (a0_1_3 : UInt32) (a0_1_4 : UInt32) (a0_1_5 : UInt32) (a0_1_6 : UInt32) (a0_1_7 : UInt32) (a1 : List UInt8) : Option (List UInt8) :=
  gd (rmB (0 + a1.length) 1) <|
  gd ((0 : Int) ≤ ((a1.length : Nat) : Int)) <|
  gd ((((a1.length : Nat) : Int) : Int) ≤ 281474976710656) <|
  gd (rmB ((([] ++ a1).length) + ((tailOf (((a1.length : Nat) : Int)).toNat).length)) 1) <|
  gd (1 + 8 ≤ 9) <|
  refsum_l1 n a0_0 a0_1_0 a0_1_1 a0_1_2 a0_1_3 a0_1_4 a0_1_5 a0_1_6 a0_1_7 a1 n [a0_1_0, a0_1_1, a0_1_2, a0_1_3, a0_1_4, a0_1_5, a0_1_6, a0_1_7] 0
def refsum_l2_E (a0_0 : List UInt32) (a0_1_0 : UInt32) (a0_1_1 : UInt32) (a0_1_2 : UInt32) (a0_1_3 : UInt32) (a0_1_4 : UInt32) (a0_1_5 : UInt32) (a0_1_6 : UInt32) (a0_1_7 : UInt32) (a1 : List UInt8) (w6_2 : List UInt32) (i7_2 : Int) (l8_8 : List UInt8) (i9_8 : Int) : S := ⟨[(2, .c (.pt 0 0)), (5, .c (.wh 2)), (6, .c (.pt 3 0)), (7, .c (.s (.k .i64 i7_2))), (8, .c (.pt 4 0)), (9, .c (.s (.k .i64 i9_8)))], [], [⟨.blk, 31, 1, 9, .c [.wh 1, .s (.u32 a0_1_0), .s (.u32 a0_1_1), .s (.u32 a0_1_2), .s (.u32 a0_1_3), .s (.u32 a0_1_4), .s (.u32 a0_1_5), .s (.u32 a0_1_6), .s (.u32 a0_1_7)]⟩, ⟨(.ro false), 28, 1, a0_0.length, .w a0_0⟩, ⟨.row, 5, 1, (([] ++ a1) ++ (tailOf (((a1.length : Nat) : Int)).toNat)).length, .b (([] ++ a1) ++ (tailOf (((a1.length : Nat) : Int)).toNat))⟩, ⟨.blk, 29, 1, 8, .w w6_2⟩, ⟨.blk, 54, 1, 64, .b l8_8⟩]⟩
def refsum_l2_P (n : Nat) (a0_0 : List UInt32) (a0_1_0 : UInt32) (a0_1_1 : UInt32) (a0_1_2 : UInt32) (a0_1_3 : UInt32) (a0_1_4 : UInt32) (a0_1_5 : UInt32) (a0_1_6 : UInt32) (a0_1_7 : UInt32) (a1 : List UInt8) (w6_2 : List UInt32) (i7_2 : Int) (k_l1 : (List UInt32) → Int → Option (List UInt8)) (r : List UInt8) (fu : Nat) : S → Prop := fun s => ∃ (l8_8 : List UInt8), ∃ (i9_8 : Int), s = refsum_l2_E a0_0 a0_1_0 a0_1_1 a0_1_2 a0_1_3 a0_1_4 a0_1_5 a0_1_6 a0_1_7 a1 w6_2 i7_2 l8_8 i9_8 ∧ refsum_l2 n a0_0 a0_1_0 a0_1_1 a0_1_2 a0_1_3 a0_1_4 a0_1_5 a0_1_6 a0_1_7 a1 w6_2 i7_2 k_l1 fu l8_8 i9_8 = some r
theorem refsum_l2_M {n : Nat} {a0_0 : List UInt32} {a0_1_0 : UInt32} {a0_1_1 : UInt32} {a0_1_2 : UInt32} {a0_1_3 : UInt32} {a0_1_4 : UInt32} {a0_1_5 : UInt32} {a0_1_6 : UInt32} {a0_1_7 : UInt32} {a1 : List UInt8} {w6_2 : List UInt32} {i7_2 : Int} {k_l1 : (List UInt32) → Int → Option (List UInt8)} {l8_8 : List UInt8} {i9_8 : Int} {r : List UInt8} {fu : Nat} (h : refsum_l2 n a0_0 a0_1_0 a0_1_1 a0_1_2 a0_1_3 a0_1_4 a0_1_5 a0_1_6 a0_1_7 a1 w6_2 i7_2 k_l1 fu l8_8 i9_8 = some r) : refsum_l2_P n a0_0 a0_1_0 a0_1_1 a0_1_2 a0_1_3 a0_1_4 a0_1_5 a0_1_6 a0_1_7 a1 w6_2 i7_2 k_l1 r fu (refsum_l2_E a0_0 a0_1_0 a0_1_1 a0_1_2 a0_1_3 a0_1_4 a0_1_5 a0_1_6 a0_1_7 a1 w6_2 i7_2 l8_8 i9_8) := ⟨l8_8, i9_8, rfl, h⟩
def refsum_l3_E (w6_2 : List UInt32) (l10_2 : List UInt8) (i11_2 : Int) : S := ⟨[(6, .c (.pt 0 0)), (10, .c (.wh 1)), (11, .c (.s (.k .i64 i11_2)))], [], [⟨.blk, 29, 1, 8, .w w6_2⟩, ⟨.row, 5, 1, l10_2.length, .b l10_2⟩]⟩
def refsum_l3_P (n : Nat) (w6_2 : List UInt32) (r : List UInt8) (fu : Nat) : S → Prop := fun s => ∃ (l10_2 : List UInt8), ∃ (i11_2 : Int), s = refsum_l3_E w6_2 l10_2 i11_2 ∧ refsum_l3 n w6_2 fu l10_2 i11_2 = some r
theorem refsum_l3_M {n : Nat} {w6_2 : List UInt32} {l10_2 : List UInt8} {i11_2 : Int} {r : List UInt8} {fu : Nat} (h : refsum_l3 n w6_2 fu l10_2 i11_2 = some r) : refsum_l3_P n w6_2 r fu (refsum_l3_E w6_2 l10_2 i11_2) := ⟨l10_2, i11_2, rfl, h⟩
def refsum_l1_E (a0_0 : List UInt32) (a0_1_0 : UInt32) (a0_1_1 : UInt32) (a0_1_2 : UInt32) (a0_1_3 : UInt32) (a0_1_4 : UInt32) (a0_1_5 : UInt32) (a0_1_6 : UInt32) (a0_1_7 : UInt32) (a1 : List UInt8) (w6_2 : List UInt32) (i7_2 : Int) : S := ⟨[(2, .c (.pt 0 0)), (5, .c (.wh 2)), (6, .c (.pt 3 0)), (7, .c (.s (.k .i64 i7_2)))], [], [⟨.blk, 31, 1, 9, .c [.wh 1, .s (.u32 a0_1_0), .s (.u32 a0_1_1), .s (.u32 a0_1_2), .s (.u32 a0_1_3), .s (.u32 a0_1_4), .s (.u32 a0_1_5), .s (.u32 a0_1_6), .s (.u32 a0_1_7)]⟩, ⟨(.ro false), 28, 1, a0_0.length, .w a0_0⟩, ⟨.row, 5, 1, (([] ++ a1) ++ (tailOf (((a1.length : Nat) : Int)).toNat)).length, .b (([] ++ a1) ++ (tailOf (((a1.length : Nat) : Int)).toNat))⟩, ⟨.blk, 29, 1, 8, .w w6_2⟩]⟩
def refsum_l1_P (n : Nat) (a0_0 : List UInt32) (a0_1_0 : UInt32) (a0_1_1 : UInt32) (a0_1_2 : UInt32) (a0_1_3 : UInt32) (a0_1_4 : UInt32) (a0_1_5 : UInt32) (a0_1_6 : UInt32) (a0_1_7 : UInt32) (a1 : List UInt8) (r : List UInt8) (fu : Nat) : S → Prop := fun s => ∃ (w6_2 : List UInt32), ∃ (i7_2 : Int), s = refsum_l1_E a0_0 a0_1_0 a0_1_1 a0_1_2 a0_1_3 a0_1_4 a0_1_5 a0_1_6 a0_1_7 a1 w6_2 i7_2 ∧ refsum_l1 n a0_0 a0_1_0 a0_1_1 a0_1_2 a0_1_3 a0_1_4 a0_1_5 a0_1_6 a0_1_7 a1 fu w6_2 i7_2 = some r
theorem refsum_l1_M {n : Nat} {a0_0 : List UInt32} {a0_1_0 : UInt32} {a0_1_1 : UInt32} {a0_1_2 : UInt32} {a0_1_3 : UInt32} {a0_1_4 : UInt32} {a0_1_5 : UInt32} {a0_1_6 : UInt32} {a0_1_7 : UInt32} {a1 : List UInt8} {w6_2 : List UInt32} {i7_2 : Int} {r : List UInt8} {fu : Nat} (h : refsum_l1 n a0_0 a0_1_0 a0_1_1 a0_1_2 a0_1_3 a0_1_4 a0_1_5 a0_1_6 a0_1_7 a1 fu w6_2 i7_2 = some r) : refsum_l1_P n a0_0 a0_1_0 a0_1_1 a0_1_2 a0_1_3 a0_1_4 a0_1_5 a0_1_6 a0_1_7 a1 r fu (refsum_l1_E a0_0 a0_1_0 a0_1_1 a0_1_2 a0_1_3 a0_1_4 a0_1_5 a0_1_6 a0_1_7 a1 w6_2 i7_2) := ⟨w6_2, i7_2, rfl, h⟩
def refsum_R (r : List UInt8) : S := ⟨[(4, .c (.wh 0))], [], [⟨.row, 5, 1, r.length, .b r⟩]⟩
def refsum_ct (n : Nat) (r : List UInt8) : Ct := fun args H => match args with
  | [x0, x1] => (match aGc 9 x0 with | some y0 => (match aW H (.c (y0.getD 0 .junk)) with | some l0_0 => (match aU32 (.c (y0.getD 1 .junk)) with | some l0_1 => (match aU32 (.c (y0.getD 2 .junk)) with | some l0_2 => (match aU32 (.c (y0.getD 3 .junk)) with | some l0_3 => (match aU32 (.c (y0.getD 4 .junk)) with | some l0_4 => (match aU32 (.c (y0.getD 5 .junk)) with | some l0_5 => (match aU32 (.c (y0.getD 6 .junk)) with | some l0_6 => (match aU32 (.c (y0.getD 7 .junk)) with | some l0_7 => (match aU32 (.c (y0.getD 8 .junk)) with | some l0_8 => (match aB H x1 with | some l1 => some ([refsum n l0_0 l0_1 l0_2 l0_3 l0_4 l0_5 l0_6 l0_7 l0_8 l1 = some r], shA H.length (.c (.wh 0)), shH H.length [⟨.row, 5, 1, r.length, .b r⟩]) | none => none) | none => none) | none => none) | none => none) | none => none) | none => none) | none => none) | none => none) | none => none) | none => none) | none => none)
  | _ => none
theorem refsum_ok (n : Nat) (r : List UInt8) : FnOk Tryd.prog Tr 22 (refsum_ct n r) := by
  refine ⟨fun args H g av objs hF hg ρ w vals hG hp ha => ?_, _, Tryd.func22, by kernel_rfl, by kernel_rfl⟩
  obtain ⟨x0, x1, rfl⟩ : ∃ x0 x1, args = [x0, x1] := by
    unfold refsum_ct at hF; split at hF
    · exact ⟨_, _, rfl⟩
    · cases hF
  cases e0 : aGc 9 x0 with
  | none => simp only [refsum_ct, e0, reduceCtorEq] at hF
  | some y0 =>
  cases e1 : aW H (.c (y0.getD 0 .junk)) with
  | none => simp only [refsum_ct, e0, e1, reduceCtorEq] at hF
  | some l0_0 =>
  cases e2 : aU32 (.c (y0.getD 1 .junk)) with
  | none => simp only [refsum_ct, e0, e1, e2, reduceCtorEq] at hF
  | some l0_1 =>
  cases e3 : aU32 (.c (y0.getD 2 .junk)) with
  | none => simp only [refsum_ct, e0, e1, e2, e3, reduceCtorEq] at hF
  | some l0_2 =>
  cases e4 : aU32 (.c (y0.getD 3 .junk)) with
  | none => simp only [refsum_ct, e0, e1, e2, e3, e4, reduceCtorEq] at hF
  | some l0_3 =>
  cases e5 : aU32 (.c (y0.getD 4 .junk)) with
  | none => simp only [refsum_ct, e0, e1, e2, e3, e4, e5, reduceCtorEq] at hF
  | some l0_4 =>
  cases e6 : aU32 (.c (y0.getD 5 .junk)) with
  | none => simp only [refsum_ct, e0, e1, e2, e3, e4, e5, e6, reduceCtorEq] at hF
  | some l0_5 =>
  cases e7 : aU32 (.c (y0.getD 6 .junk)) with
  | none => simp only [refsum_ct, e0, e1, e2, e3, e4, e5, e6, e7, reduceCtorEq] at hF
  | some l0_6 =>
  cases e8 : aU32 (.c (y0.getD 7 .junk)) with
  | none => simp only [refsum_ct, e0, e1, e2, e3, e4, e5, e6, e7, e8, reduceCtorEq] at hF
  | some l0_7 =>
  cases e9 : aU32 (.c (y0.getD 8 .junk)) with
  | none => simp only [refsum_ct, e0, e1, e2, e3, e4, e5, e6, e7, e8, e9, reduceCtorEq] at hF
  | some l0_8 =>
  cases e10 : aB H x1 with
  | none => simp only [refsum_ct, e0, e1, e2, e3, e4, e5, e6, e7, e8, e9, e10, reduceCtorEq] at hF
  | some l1 =>
  simp only [refsum_ct, e0, e1, e2, e3, e4, e5, e6, e7, e8, e9, e10, Option.some.injEq, Prod.mk.injEq] at hF
  obtain ⟨rfl, rfl, rfl⟩ := hF
  obtain ⟨v0, vals, rfl, k0, ha⟩ := F2.inv ha
  obtain ⟨v1, vals, rfl, k1, ha⟩ := F2.inv ha
  obtain rfl := F2.inv0 ha
  have hI : ∀ w', Kp (noB (fun _ => undef)) w w' → Tr w' := fun _ hk => Tr.keep hk.below hG
  have h : refsum n l0_0 l0_1 l0_2 l0_3 l0_4 l0_5 l0_6 l0_7 l0_8 l1 = some r := hg
  obtain ⟨vs0, hn0, rfl, hy0⟩ := aGc_ok e0 k0
  obtain ⟨p0_0, s0_0, o0_0⟩ := aW_ok hp e1 (hy0 0 (by decide)) 28
  have s0_1 := aU32_ok e2 (hy0 1 (by decide))
  have s0_2 := aU32_ok e3 (hy0 2 (by decide))
  have s0_3 := aU32_ok e4 (hy0 3 (by decide))
  have s0_4 := aU32_ok e5 (hy0 4 (by decide))
  have s0_5 := aU32_ok e6 (hy0 5 (by decide))
  have s0_6 := aU32_ok e7 (hy0 6 (by decide))
  have s0_7 := aU32_ok e8 (hy0 7 (by decide))
  have s0_8 := aU32_ok e9 (hy0 8 (by decide))
  obtain ⟨p1, s1, o1⟩ := aB_ok hp e10 (k1) 5
  have hR0 := rel0 (gv := (fun _ => undef)) (n := 71) (w := w) (args := [.g 9 (.c [.wh 0, .s (.u32 l0_1), .s (.u32 l0_2), .s (.u32 l0_3), .s (.u32 l0_4), .s (.u32 l0_5), .s (.u32 l0_6), .s (.u32 l0_7), .s (.u32 l0_8)]), .c (.wh 1)]) (H := [⟨.ro false, 28, 1, l0_0.length, .w l0_0⟩, ⟨.ro false, 5, 1, l1.length, .b l1⟩]) (gl := []) (hpL (ps := [p0_0, p1]) (F2.cons o0_0 (F2.cons o1 F2.nil))) (allRo_ok rfl) (F2.cons ⟨vs0, (by rw [lstE undef hn0]; exact (F2.cons s0_0 (F2.cons s0_1 (F2.cons s0_2 (F2.cons s0_3 (F2.cons s0_4 (F2.cons s0_5 (F2.cons s0_6 (F2.cons s0_7 (F2.cons s0_8 F2.nil)))))))))), hn0, rfl⟩ (F2.cons s1 F2.nil)) GlR.nil (by simp)
  clear ha hp hg k0 k1 e0 e1 e2 e3 e4 e5 e6 e7 e8 e9 e10
  refine calls_W Tryd.func22 rfl rfl hR0 (Q := fun e s => (e = .ret ∨ e = .normal) ∧ s = refsum_R r) ?_ ?_
  · clear hR0
    unfold refsum at h
    have hT := tabO_mr
    refine W_seq ?_
    refine W_reg hT ftL_nil [] [] [1, 2] [1, 2, 0] (s' := ⟨[(1, .c (.wh 0)), (2, .c (.pt 1 0))], [], [⟨(.ro false), 5, 1, l1.length, .b l1⟩, ⟨.blk, 31, 1, 9, .c [.wh 2, .s (.u32 l0_1), .s (.u32 l0_2), .s (.u32 l0_3), .s (.u32 l0_4), .s (.u32 l0_5), .s (.u32 l0_6), .s (.u32 l0_7), .s (.u32 l0_8)]⟩, ⟨(.ro false), 28, 1, l0_0.length, .w l0_0⟩]⟩) (by kernel_rfl) allP_nil ?_
    refine W_seq ?_
    obtain ⟨g1, h⟩ := gd_some h
    obtain ⟨g2, h⟩ := gd_some h
    obtain ⟨g3, h⟩ := gd_some h
    obtain ⟨g4, h⟩ := gd_some h
    refine W_reg hT (ftL_cons (k := 5) (f := 31) (F := reftail_ct) reftail_h (fun _ _ => True.intro) ftL_nil) [] [] [2, 5] [1, 2, 6] (s' := ⟨[(2, .c (.pt 0 0)), (5, .c (.wh 2))], [], [⟨.blk, 31, 1, 9, .c [.wh 1, .s (.u32 l0_1), .s (.u32 l0_2), .s (.u32 l0_3), .s (.u32 l0_4), .s (.u32 l0_5), .s (.u32 l0_6), .s (.u32 l0_7), .s (.u32 l0_8)]⟩, ⟨(.ro false), 28, 1, l0_0.length, .w l0_0⟩, ⟨.row, 5, 1, (([] ++ l1) ++ (tailOf (((l1.length : Nat) : Int)).toNat)).length, .b (([] ++ l1) ++ (tailOf (((l1.length : Nat) : Int)).toNat))⟩]⟩) (by kernel_rfl) (allP_cons.2 ⟨g1, (allP_cons.2 ⟨g2, (allP_cons.2 ⟨g3, (allP_cons.2 ⟨g4, allP_nil⟩)⟩)⟩)⟩) ?_
    refine W_seq ?_
    obtain ⟨g5, h⟩ := gd_some h
    refine W_reg hT ftL_nil [] [] [2, 5, 6] [0, 1, 2, 3] (s' := ⟨[(2, .c (.pt 0 0)), (5, .c (.wh 2)), (6, .c (.pt 3 0))], [], [⟨.blk, 31, 1, 9, .c [.wh 1, .s (.u32 l0_1), .s (.u32 l0_2), .s (.u32 l0_3), .s (.u32 l0_4), .s (.u32 l0_5), .s (.u32 l0_6), .s (.u32 l0_7), .s (.u32 l0_8)]⟩, ⟨(.ro false), 28, 1, l0_0.length, .w l0_0⟩, ⟨.row, 5, 1, (([] ++ l1) ++ (tailOf (((l1.length : Nat) : Int)).toNat)).length, .b (([] ++ l1) ++ (tailOf (((l1.length : Nat) : Int)).toNat))⟩, ⟨.blk, 29, 1, 8, .c [.s (.u32 l0_1), .s (.u32 l0_2), .s (.u32 l0_3), .s (.u32 l0_4), .s (.u32 l0_5), .s (.u32 l0_6), .s (.u32 l0_7), .s (.u32 l0_8)]⟩]⟩) (by kernel_rfl) (allP_cons.2 ⟨g5, allP_nil⟩) ?_
    refine W_seq ?_
    refine W_seq ?_
    refine W_reg hT ftL_nil [] [] [2, 5, 6, 7] [0, 1, 2, 3] (s' := ⟨[(2, .c (.pt 0 0)), (5, .c (.wh 2)), (6, .c (.pt 3 0)), (7, .c (.s (.k .i64 0)))], [], [⟨.blk, 31, 1, 9, .c [.wh 1, .s (.u32 l0_1), .s (.u32 l0_2), .s (.u32 l0_3), .s (.u32 l0_4), .s (.u32 l0_5), .s (.u32 l0_6), .s (.u32 l0_7), .s (.u32 l0_8)]⟩, ⟨(.ro false), 28, 1, l0_0.length, .w l0_0⟩, ⟨.row, 5, 1, (([] ++ l1) ++ (tailOf (((l1.length : Nat) : Int)).toNat)).length, .b (([] ++ l1) ++ (tailOf (((l1.length : Nat) : Int)).toNat))⟩, ⟨.blk, 29, 1, 8, .c [.s (.u32 l0_1), .s (.u32 l0_2), .s (.u32 l0_3), .s (.u32 l0_4), .s (.u32 l0_5), .s (.u32 l0_6), .s (.u32 l0_7), .s (.u32 l0_8)]⟩]⟩) (by kernel_rfl) allP_nil ?_
    refine W_block ?_
    refine W_co [.ty 3] [2, 5, 6, 7] [0, 1, 2, 3] (s' := (refsum_l1_E l0_0 l0_1 l0_2 l0_3 l0_4 l0_5 l0_6 l0_7 l0_8 l1 [l0_1, l0_2, l0_3, l0_4, l0_5, l0_6, l0_7, l0_8] 0)) (by kernel_rfl) (W_lp ((refsum_l1_P n l0_0 l0_1 l0_2 l0_3 l0_4 l0_5 l0_6 l0_7 l0_8 l1 r)) n (refsum_l1_M h) ?_)
    rintro fu_l1 _ ⟨w6_2, i7_2, rfl, h⟩
    cases fu_l1 with
    | zero => cases h
    | succ fu_l1 =>
      refine ⟨fu_l1, rfl, ?_⟩
      rw [refsum_l1] at h
      refine W_seq ?_
      refine W_seq ?_
      refine W_reg hT ftL_nil [] [] [2, 5, 6, 7, 24] [0, 1, 2, 3] (s' := ⟨[(2, .c (.pt 0 0)), (5, .c (.wh 2)), (6, .c (.pt 3 0)), (7, .c (.s (.k .i64 i7_2))), (24, .c (.s (.b (decide (i7_2 < (((([] ++ l1) ++ (tailOf (((l1.length : Nat) : Int)).toNat)).length : Nat) : Int))))))], [], [⟨.blk, 31, 1, 9, .c [.wh 1, .s (.u32 l0_1), .s (.u32 l0_2), .s (.u32 l0_3), .s (.u32 l0_4), .s (.u32 l0_5), .s (.u32 l0_6), .s (.u32 l0_7), .s (.u32 l0_8)]⟩, ⟨(.ro false), 28, 1, l0_0.length, .w l0_0⟩, ⟨.row, 5, 1, (([] ++ l1) ++ (tailOf (((l1.length : Nat) : Int)).toNat)).length, .b (([] ++ l1) ++ (tailOf (((l1.length : Nat) : Int)).toNat))⟩, ⟨.blk, 29, 1, 8, .w w6_2⟩]⟩) (by kernel_rfl) allP_nil ?_
      refine W_cond (b := (decide (i7_2 < (((([] ++ l1) ++ (tailOf (((l1.length : Nat) : Int)).toNat)).length : Nat) : Int)))) (by kernel_rfl) (fun g29 => ?_) (fun g29 => ?_)
      · replace h := bif_t h g29
        refine W_co [] [2, 5, 6, 7] [0, 1, 2, 3] (s' := ⟨[(2, .c (.pt 0 0)), (5, .c (.wh 2)), (6, .c (.pt 3 0)), (7, .c (.s (.k .i64 i7_2)))], [], [⟨.blk, 31, 1, 9, .c [.wh 1, .s (.u32 l0_1), .s (.u32 l0_2), .s (.u32 l0_3), .s (.u32 l0_4), .s (.u32 l0_5), .s (.u32 l0_6), .s (.u32 l0_7), .s (.u32 l0_8)]⟩, ⟨(.ro false), 28, 1, l0_0.length, .w l0_0⟩, ⟨.row, 5, 1, (([] ++ l1) ++ (tailOf (((l1.length : Nat) : Int)).toNat)).length, .b (([] ++ l1) ++ (tailOf (((l1.length : Nat) : Int)).toNat))⟩, ⟨.blk, 29, 1, 8, .w w6_2⟩]⟩) (by kernel_rfl) (W_skip ?_)
        refine W_seq ?_
        refine W_block ?_
        refine W_seq ?_
        refine W_reg hT ftL_nil [] [] [2, 5, 6, 7, 8] [0, 1, 2, 3, 4] (s' := ⟨[(2, .c (.pt 0 0)), (5, .c (.wh 2)), (6, .c (.pt 3 0)), (7, .c (.s (.k .i64 i7_2))), (8, .c (.pt 4 0))], [], [⟨.blk, 31, 1, 9, .c [.wh 1, .s (.u32 l0_1), .s (.u32 l0_2), .s (.u32 l0_3), .s (.u32 l0_4), .s (.u32 l0_5), .s (.u32 l0_6), .s (.u32 l0_7), .s (.u32 l0_8)]⟩, ⟨(.ro false), 28, 1, l0_0.length, .w l0_0⟩, ⟨.row, 5, 1, (([] ++ l1) ++ (tailOf (((l1.length : Nat) : Int)).toNat)).length, .b (([] ++ l1) ++ (tailOf (((l1.length : Nat) : Int)).toNat))⟩, ⟨.blk, 29, 1, 8, .w w6_2⟩, ⟨.blk, 54, 1, 64, .b (List.replicate 64 0)⟩]⟩) (by kernel_rfl) allP_nil ?_
        refine W_seq ?_
        refine W_seq ?_
        refine W_reg hT ftL_nil [] [] [2, 5, 6, 7, 8, 9] [0, 1, 2, 3, 4] (s' := ⟨[(2, .c (.pt 0 0)), (5, .c (.wh 2)), (6, .c (.pt 3 0)), (7, .c (.s (.k .i64 i7_2))), (8, .c (.pt 4 0)), (9, .c (.s (.k .i64 0)))], [], [⟨.blk, 31, 1, 9, .c [.wh 1, .s (.u32 l0_1), .s (.u32 l0_2), .s (.u32 l0_3), .s (.u32 l0_4), .s (.u32 l0_5), .s (.u32 l0_6), .s (.u32 l0_7), .s (.u32 l0_8)]⟩, ⟨(.ro false), 28, 1, l0_0.length, .w l0_0⟩, ⟨.row, 5, 1, (([] ++ l1) ++ (tailOf (((l1.length : Nat) : Int)).toNat)).length, .b (([] ++ l1) ++ (tailOf (((l1.length : Nat) : Int)).toNat))⟩, ⟨.blk, 29, 1, 8, .w w6_2⟩, ⟨.blk, 54, 1, 64, .b (List.replicate 64 0)⟩]⟩) (by kernel_rfl) allP_nil ?_
        refine W_block ?_
        refine W_co [] [2, 5, 6, 7, 8, 9] [0, 1, 2, 3, 4] (s' := (refsum_l2_E l0_0 l0_1 l0_2 l0_3 l0_4 l0_5 l0_6 l0_7 l0_8 l1 w6_2 i7_2 (List.replicate 64 0) 0)) (by kernel_rfl) (W_lp ((refsum_l2_P n l0_0 l0_1 l0_2 l0_3 l0_4 l0_5 l0_6 l0_7 l0_8 l1 w6_2 i7_2 (refsum_l1 n l0_0 l0_1 l0_2 l0_3 l0_4 l0_5 l0_6 l0_7 l0_8 l1 fu_l1) r)) n (refsum_l2_M h) ?_)
        rintro fu_l2 _ ⟨l8_8, i9_8, rfl, h⟩
        cases fu_l2 with
        | zero => cases h
        | succ fu_l2 =>
          refine ⟨fu_l2, rfl, ?_⟩
          rw [refsum_l2] at h
          refine W_seq ?_
          refine W_seq ?_
          refine W_reg hT ftL_nil [] [] [2, 5, 6, 7, 8, 9, 28] [0, 1, 2, 3, 4] (s' := ⟨[(2, .c (.pt 0 0)), (5, .c (.wh 2)), (6, .c (.pt 3 0)), (7, .c (.s (.k .i64 i7_2))), (8, .c (.pt 4 0)), (9, .c (.s (.k .i64 i9_8))), (28, .c (.s (.b (decide (i9_8 < (64 : Int))))))], [], [⟨.blk, 31, 1, 9, .c [.wh 1, .s (.u32 l0_1), .s (.u32 l0_2), .s (.u32 l0_3), .s (.u32 l0_4), .s (.u32 l0_5), .s (.u32 l0_6), .s (.u32 l0_7), .s (.u32 l0_8)]⟩, ⟨(.ro false), 28, 1, l0_0.length, .w l0_0⟩, ⟨.row, 5, 1, (([] ++ l1) ++ (tailOf (((l1.length : Nat) : Int)).toNat)).length, .b (([] ++ l1) ++ (tailOf (((l1.length : Nat) : Int)).toNat))⟩, ⟨.blk, 29, 1, 8, .w w6_2⟩, ⟨.blk, 54, 1, 64, .b l8_8⟩]⟩) (by kernel_rfl) allP_nil ?_
          refine W_cond (b := (decide (i9_8 < (64 : Int)))) (by kernel_rfl) (fun g14 => ?_) (fun g14 => ?_)
          · replace h := bif_t h g14
            refine W_co [] [2, 5, 6, 7, 8, 9] [0, 1, 2, 3, 4] (s' := ⟨[(2, .c (.pt 0 0)), (5, .c (.wh 2)), (6, .c (.pt 3 0)), (7, .c (.s (.k .i64 i7_2))), (8, .c (.pt 4 0)), (9, .c (.s (.k .i64 i9_8)))], [], [⟨.blk, 31, 1, 9, .c [.wh 1, .s (.u32 l0_1), .s (.u32 l0_2), .s (.u32 l0_3), .s (.u32 l0_4), .s (.u32 l0_5), .s (.u32 l0_6), .s (.u32 l0_7), .s (.u32 l0_8)]⟩, ⟨(.ro false), 28, 1, l0_0.length, .w l0_0⟩, ⟨.row, 5, 1, (([] ++ l1) ++ (tailOf (((l1.length : Nat) : Int)).toNat)).length, .b (([] ++ l1) ++ (tailOf (((l1.length : Nat) : Int)).toNat))⟩, ⟨.blk, 29, 1, 8, .w w6_2⟩, ⟨.blk, 54, 1, 64, .b l8_8⟩]⟩) (by kernel_rfl) (W_skip ?_)
            refine W_seq ?_
            refine W_block ?_
            obtain ⟨g6, h⟩ := gd_some h
            obtain ⟨g7, h⟩ := gd_some h
            obtain ⟨g8, h⟩ := gd_some h
            obtain ⟨g9, h⟩ := gd_some h
            obtain ⟨g10, h⟩ := gd_some h
            refine W_reg hT ftL_nil [] [] [2, 5, 6, 7, 8, 9] [0, 1, 2, 3, 4] (s' := ⟨[(2, .c (.pt 0 0)), (5, .c (.wh 2)), (6, .c (.pt 3 0)), (7, .c (.s (.k .i64 i7_2))), (8, .c (.pt 4 0)), (9, .c (.s (.k .i64 i9_8)))], [], [⟨.blk, 31, 1, 9, .c [.wh 1, .s (.u32 l0_1), .s (.u32 l0_2), .s (.u32 l0_3), .s (.u32 l0_4), .s (.u32 l0_5), .s (.u32 l0_6), .s (.u32 l0_7), .s (.u32 l0_8)]⟩, ⟨(.ro false), 28, 1, l0_0.length, .w l0_0⟩, ⟨.row, 5, 1, (([] ++ l1) ++ (tailOf (((l1.length : Nat) : Int)).toNat)).length, .b (([] ++ l1) ++ (tailOf (((l1.length : Nat) : Int)).toNat))⟩, ⟨.blk, 29, 1, 8, .w w6_2⟩, ⟨.blk, 54, 1, 64, .b (l8_8.set i9_8.toNat ((([] ++ l1) ++ (tailOf (((l1.length : Nat) : Int)).toNat)).getD ((i7_2 + i9_8).toNat) 0))⟩]⟩) (by kernel_rfl) (allP_cons.2 ⟨g6, (allP_cons.2 ⟨g7, (allP_cons.2 ⟨g8, (allP_cons.2 ⟨g9, (allP_cons.2 ⟨g10, allP_nil⟩)⟩)⟩)⟩)⟩) ?_
            obtain ⟨g11, h⟩ := gd_some h
            refine W_reg hT ftL_nil [] [] [2, 5, 6, 7, 8, 9] [0, 1, 2, 3, 4] (s' := (refsum_l2_E l0_0 l0_1 l0_2 l0_3 l0_4 l0_5 l0_6 l0_7 l0_8 l1 w6_2 i7_2 (l8_8.set i9_8.toNat ((([] ++ l1) ++ (tailOf (((l1.length : Nat) : Int)).toNat)).getD ((i7_2 + i9_8).toNat) 0)) (i9_8 + 1))) (by kernel_rfl) (allP_cons.2 ⟨g11, allP_nil⟩) ?_
            exact refsum_l2_M h
          · replace h := bif_f h g14
            refine W_co [] [2, 5, 6, 7, 8] [0, 1, 2, 3, 4] (s' := ⟨[(2, .c (.pt 0 0)), (5, .c (.wh 2)), (6, .c (.pt 3 0)), (7, .c (.s (.k .i64 i7_2))), (8, .c (.pt 4 0))], [], [⟨.blk, 31, 1, 9, .c [.wh 1, .s (.u32 l0_1), .s (.u32 l0_2), .s (.u32 l0_3), .s (.u32 l0_4), .s (.u32 l0_5), .s (.u32 l0_6), .s (.u32 l0_7), .s (.u32 l0_8)]⟩, ⟨(.ro false), 28, 1, l0_0.length, .w l0_0⟩, ⟨.row, 5, 1, (([] ++ l1) ++ (tailOf (((l1.length : Nat) : Int)).toNat)).length, .b (([] ++ l1) ++ (tailOf (((l1.length : Nat) : Int)).toNat))⟩, ⟨.blk, 29, 1, 8, .w w6_2⟩, ⟨.blk, 54, 1, 64, .b l8_8⟩]⟩) (by kernel_rfl) (W_exit ?_)
            obtain ⟨g12, h⟩ := gd_some h
            refine W_reg hT (ftL_cons (k := 4) (f := 32) (F := refpress_ct) refpress_h (fun _ _ => True.intro) ftL_nil) [] [] [2, 5, 6, 7] [0, 1, 2, 3] (s' := ⟨[(2, .c (.pt 0 0)), (5, .c (.wh 2)), (6, .c (.pt 3 0)), (7, .c (.s (.k .i64 i7_2)))], [], [⟨.blk, 31, 1, 9, .c [.wh 1, .s (.u32 l0_1), .s (.u32 l0_2), .s (.u32 l0_3), .s (.u32 l0_4), .s (.u32 l0_5), .s (.u32 l0_6), .s (.u32 l0_7), .s (.u32 l0_8)]⟩, ⟨(.ro false), 28, 1, l0_0.length, .w l0_0⟩, ⟨.row, 5, 1, (([] ++ l1) ++ (tailOf (((l1.length : Nat) : Int)).toNat)).length, .b (([] ++ l1) ++ (tailOf (((l1.length : Nat) : Int)).toNat))⟩, ⟨.blk, 29, 1, 8, .w (pressL l0_0 w6_2 l8_8)⟩]⟩) (by kernel_rfl) (allP_cons.2 ⟨g12, allP_nil⟩) ?_
            obtain ⟨g13, h⟩ := gd_some h
            refine W_reg hT ftL_nil [] [] [2, 5, 6, 7] [0, 1, 2, 3] (s' := (refsum_l1_E l0_0 l0_1 l0_2 l0_3 l0_4 l0_5 l0_6 l0_7 l0_8 l1 (pressL l0_0 w6_2 l8_8) (i7_2 + 64))) (by kernel_rfl) (allP_cons.2 ⟨g13, allP_nil⟩) ?_
            exact refsum_l1_M h
      · replace h := bif_f h g29
        refine W_co [] [6] [3] (s' := ⟨[(6, .c (.pt 0 0))], [], [⟨.blk, 29, 1, 8, .w w6_2⟩]⟩) (by kernel_rfl) (W_exit ?_)
        refine W_seq ?_
        refine W_reg hT ftL_nil [] [] [6, 10] [0] (s' := ⟨[(6, .c (.pt 0 0)), (10, .c (.nils))], [], [⟨.blk, 29, 1, 8, .w w6_2⟩]⟩) (by kernel_rfl) allP_nil ?_
        refine W_seq ?_
        refine W_seq ?_
        refine W_reg hT ftL_nil [] [] [6, 10, 11] [0] (s' := ⟨[(6, .c (.pt 0 0)), (10, .c (.nils)), (11, .c (.s (.k .i64 0)))], [], [⟨.blk, 29, 1, 8, .w w6_2⟩]⟩) (by kernel_rfl) allP_nil ?_
        refine W_block ?_
        refine W_co [.nil 10 5 1 (.b [])] [6, 10, 11] [0, 1] (s' := (refsum_l3_E w6_2 [] 0)) (by kernel_rfl) (W_lp ((refsum_l3_P n w6_2 r)) n (refsum_l3_M h) ?_)
        rintro fu_l3 _ ⟨l10_2, i11_2, rfl, h⟩
        cases fu_l3 with
        | zero => cases h
        | succ fu_l3 =>
          refine ⟨fu_l3, rfl, ?_⟩
          rw [refsum_l3] at h
          refine W_seq ?_
          refine W_seq ?_
          refine W_reg hT ftL_nil [] [] [6, 10, 11, 45] [0, 1] (s' := ⟨[(6, .c (.pt 0 0)), (10, .c (.wh 1)), (11, .c (.s (.k .i64 i11_2))), (45, .c (.s (.b (decide (i11_2 < (8 : Int))))))], [], [⟨.blk, 29, 1, 8, .w w6_2⟩, ⟨.row, 5, 1, l10_2.length, .b l10_2⟩]⟩) (by kernel_rfl) allP_nil ?_
          refine W_cond (b := (decide (i11_2 < (8 : Int)))) (by kernel_rfl) (fun g28 => ?_) (fun g28 => ?_)
          · replace h := bif_t h g28
            refine W_co [] [6, 10, 11] [0, 1] (s' := ⟨[(6, .c (.pt 0 0)), (10, .c (.wh 1)), (11, .c (.s (.k .i64 i11_2)))], [], [⟨.blk, 29, 1, 8, .w w6_2⟩, ⟨.row, 5, 1, l10_2.length, .b l10_2⟩]⟩) (by kernel_rfl) (W_skip ?_)
            refine W_seq ?_
            refine W_block ?_
            obtain ⟨g15, h⟩ := gd_some h
            obtain ⟨g16, h⟩ := gd_some h
            obtain ⟨g17, h⟩ := gd_some h
            obtain ⟨g18, h⟩ := gd_some h
            obtain ⟨g19, h⟩ := gd_some h
            obtain ⟨g20, h⟩ := gd_some h
            obtain ⟨g21, h⟩ := gd_some h
            obtain ⟨g22, h⟩ := gd_some h
            obtain ⟨g23, h⟩ := gd_some h
            obtain ⟨g24, h⟩ := gd_some h
            obtain ⟨g25, h⟩ := gd_some h
            obtain ⟨g26, h⟩ := gd_some h
            refine W_regD hT ftL_nil (by kernel_rfl) 21 [] [(6, false), (10, false), (11, false), (48, false), (68, false)] [] [6, 10, 11] [0, 3] (s' := ⟨[(6, .c (.pt 0 0)), (10, .c (.wh 1)), (11, .c (.s (.k .i64 i11_2)))], [], [⟨.blk, 29, 1, 8, .w w6_2⟩, ⟨.row, 5, 1, (l10_2 ++ [((w6_2.getD i11_2.toNat 0) / (16777216 : UInt32)).toUInt8, ((w6_2.getD i11_2.toNat 0) / (65536 : UInt32)).toUInt8, ((w6_2.getD i11_2.toNat 0) / (256 : UInt32)).toUInt8, (w6_2.getD i11_2.toNat 0).toUInt8]).length, .b (l10_2 ++ [((w6_2.getD i11_2.toNat 0) / (16777216 : UInt32)).toUInt8, ((w6_2.getD i11_2.toNat 0) / (65536 : UInt32)).toUInt8, ((w6_2.getD i11_2.toNat 0) / (256 : UInt32)).toUInt8, (w6_2.getD i11_2.toNat 0).toUInt8])⟩]⟩) (by kernel_rfl) (by kernel_rfl) (allP_cons.2 ⟨g15, (allP_cons.2 ⟨g16, (allP_cons.2 ⟨g17, (allP_cons.2 ⟨g18, (allP_cons.2 ⟨g19, (allP_cons.2 ⟨g20, (allP_cons.2 ⟨g21, (allP_cons.2 ⟨g22, (allP_cons.2 ⟨g23, (allP_cons.2 ⟨g24, (allP_cons.2 ⟨g25, (allP_cons.2 ⟨g26, allP_nil⟩)⟩)⟩)⟩)⟩)⟩)⟩)⟩)⟩)⟩)⟩)⟩) ?_
            obtain ⟨g27, h⟩ := gd_some h
            refine W_reg hT ftL_nil [] [] [6, 10, 11] [0, 1] (s' := (refsum_l3_E w6_2 (l10_2 ++ [((w6_2.getD i11_2.toNat 0) / (16777216 : UInt32)).toUInt8, ((w6_2.getD i11_2.toNat 0) / (65536 : UInt32)).toUInt8, ((w6_2.getD i11_2.toNat 0) / (256 : UInt32)).toUInt8, (w6_2.getD i11_2.toNat 0).toUInt8]) (i11_2 + 1))) (by kernel_rfl) (allP_cons.2 ⟨g27, allP_nil⟩) ?_
            exact refsum_l3_M h
          · replace h := bif_f h g28
            refine W_co [] [10] [1] (s' := ⟨[(10, .c (.wh 0))], [], [⟨.row, 5, 1, l10_2.length, .b l10_2⟩]⟩) (by kernel_rfl) (W_exit ?_)
            refine W_seq ?_
            refine W_reg hT ftL_nil [] [] [4] [0] (s' := ⟨[(4, .c (.wh 0))], [], [⟨.row, 5, 1, l10_2.length, .b l10_2⟩]⟩) (by kernel_rfl) allP_nil ?_
            refine W_co [] [4] [0] (s' := (refsum_R l10_2)) (by kernel_rfl) (W_ret ?_)
            exact ⟨.inl rfl, by cases h; rfl⟩
  · rintro e s' ⟨he, rfl⟩
    refine ⟨he, fun a' w' hr => ?_⟩
    exact retS_ok tabO_mr hr (rs := [.tmp 4]) rfl (objs := [0]) (by kernel_rfl)
end Go.Proofs.YtamddohbpdbdmaaDoor
end
