import Derived.Test.YtamddohbpdbdmaaDoorSxX
import Derived.Test.YtamddohbpdbdmaaDoorProg
import Derived.Test.YtamddohbpdbdmaaDoorMx
set_option linter.unusedVariables false
set_option linter.unusedSimpArgs false
namespace Go.Proofs.YtamddohbpdbdmaaDoor
open Go.RowKit Go.Ch Go.Sx

def tabL_ma : List (TypeId × Ti) := [(3, ⟨.int .i64, 1, 8, true, some [.int .i64]⟩),
  (5, ⟨.int .u8, 1, 1, true, some [.int .u8]⟩),
  (9, ⟨.str, 1, 16, true, some [.str]⟩),
  (22, ⟨.sl 5, 1, 24, false, some [.nils]⟩),
  (35, ⟨.ifc, 1, 16, true, some [.ifc]⟩),
  (38, ⟨.int .i64, 1, 8, true, some [.int .i64]⟩),
  (55, ⟨.sl 22, 1, 24, false, some [.nils]⟩)]
def tab_ma : Tab := fun t => (tabL_ma).lookup t
theorem tabE_ma : (tabL_ma.map fun p => tiOf Tryd.prog p.1) = tabL_ma.map fun p => some p.2 := by kernel_rfl
theorem tabO_ma : TabOk Tryd.prog tab_ma := tab_of tabE_ma

def mpadded_l1 (n : Nat) (a1 : UInt8) : Nat → List UInt8 → Int → Option (List UInt8)
  | 0, _, _ => none
  | fu_l1 + 1, l5_2, i18_2 =>
    bif (decide (i18_2 < (64 : Int))) then
      gd (0 ≤ i18_2) <|
      gd (i18_2 < (64 : Int)) <|
      gd (0 ≤ i18_2) <|
      gd (i18_2 < (64 : Int)) <|
      gd (okI .i64 (i18_2 + 1)) <|
      (mpadded_l1 n a1 fu_l1) (l5_2.set i18_2.toNat ((l5_2.getD i18_2.toNat 0) ^^^ a1)) (i18_2 + 1)
    else
      some l5_2
def mpadded_j1 (n : Nat) (a1 : UInt8) (l0_2 : List UInt8) : Option (List UInt8) :=
  gd (0 ≤ (64 : Int)) <|
  gd ((64 : Int) = (64 : Int)) <|
  gd (rmB 64 1) <|
  mpadded_l1 n a1 n (((List.replicate 64 0).take 0 ++ l0_2.take (min l0_2.length 64)) ++ (List.replicate 64 0).drop (0 + (min l0_2.length 64))) 0
def mpadded (n : Nat) (a0 : List UInt8) (a1 : UInt8) : Option (List UInt8) :=
  bif (decide ((64 : Int) < ((a0.length : Nat) : Int))) then
    gd ((a0).length ≤ 100000) <|
    mpadded_j1 n a1 (digest consts begin8 a0)
  else
    mpadded_j1 n a1 a0
def mMark (n : Nat) (a0 : List UInt8) (a1 : List UInt8) : Option (List UInt8) :=
  (mpadded n a0 54).bind fun r7 =>
  gd ((([r7, a1] : List (List UInt8))).length ≤ 1000000) <|
  gd ((([r7, a1] : List (List UInt8))).flatten.length ≤ 1000000000) <|
  gd ((((([r7, a1] : List (List UInt8))).flatten)).length ≤ 100000) <|
  (mpadded n a0 92).bind fun r13 =>
  gd ((([r13, (digest consts begin8 ((([r7, a1] : List (List UInt8))).flatten))] : List (List UInt8))).length ≤ 1000000) <|
  gd ((([r13, (digest consts begin8 ((([r7, a1] : List (List UInt8))).flatten))] : List (List UInt8))).flatten.length ≤ 1000000000) <|
  gd ((((([r13, (digest consts begin8 ((([r7, a1] : List (List UInt8))).flatten))] : List (List UInt8))).flatten)).length ≤ 100000) <|
  some (digest consts begin8 ((([r13, (digest consts begin8 ((([r7, a1] : List (List UInt8))).flatten))] : List (List UInt8))).flatten))
def mmay (n : Nat) (a0 : Int) : Option (Option Int) :=
  bif (decide (a0 < (1 : Int))) then
    some (some 1)
  else
    bif (decide ((10000 : Int) < a0)) then
      some (some 4)
    else
      some none
def mDerive_l3 (n : Nat) (a0 : List UInt8) (a1 : List UInt8) (a2 : Int) (a3 : Int) (l11_1 : List UInt8) (i12_1 : Int) (r48_2 : List UInt8) (i53_5 : Int) (r57_8 : List UInt8) (k_l2 : (List UInt8) → (List UInt8) → Int → Option (List UInt8 × Nat × Option Int)) : Nat → List UInt8 → Int → Option (List UInt8 × Nat × Option Int)
  | 0, _, _ => none
  | fu_l3 + 1, l14_23, i60_17 =>
    bif (decide (i60_17 < (((r48_2).length : Nat) : Int))) then
      gd (0 ≤ i60_17) <|
      gd (i60_17 < (((r48_2).length : Nat) : Int)) <|
      gd (0 ≤ i60_17) <|
      gd (i60_17 < ((r57_8.length : Nat) : Int)) <|
      gd (0 ≤ i60_17) <|
      gd (i60_17 < (((r48_2).length : Nat) : Int)) <|
      gd (okI .i64 (i60_17 + 1)) <|
      (mDerive_l3 n a0 a1 a2 a3 l11_1 i12_1 r48_2 i53_5 r57_8 k_l2 fu_l3) (l14_23.set i60_17.toNat ((l14_23.getD i60_17.toNat 0) ^^^ (r57_8.getD i60_17.toNat 0))) (i60_17 + 1)
    else
      gd (okI .i64 (i53_5 + 1)) <|
      k_l2 r57_8 l14_23 (i53_5 + 1)
def mDerive_l2 (n : Nat) (a0 : List UInt8) (a1 : List UInt8) (a2 : Int) (a3 : Int) (l11_1 : List UInt8) (i12_1 : Int) (r48_2 : List UInt8) (k_l1 : (List UInt8) → Int → Option (List UInt8 × Nat × Option Int)) : Nat → List UInt8 → List UInt8 → Int → Option (List UInt8 × Nat × Option Int)
  | 0, _, _, _ => none
  | fu_l2 + 1, l13_5, l14_21, i53_5 =>
    bif (decide (i53_5 < (a2 - 1))) then
      (mMark n a0 l13_5).bind fun r57_8 =>
      mDerive_l3 n a0 a1 a2 a3 l11_1 i12_1 r48_2 i53_5 r57_8 (mDerive_l2 n a0 a1 a2 a3 l11_1 i12_1 r48_2 k_l1 fu_l2) n l14_21 0
    else
      gd (rmB (l11_1.length + ((r48_2).length)) 1) <|
      gd (okI .i64 (i12_1 + 1)) <|
      k_l1 (l11_1 ++ l14_21) (i12_1 + 1)
def mDerive_l1 (n : Nat) (a0 : List UInt8) (a1 : List UInt8) (a2 : Int) (a3 : Int) : Nat → List UInt8 → Int → Option (List UInt8 × Nat × Option Int)
  | 0, _, _ => none
  | fu_l1 + 1, l11_1, i12_1 =>
    bif (decide (((l11_1.length : Nat) : Int) < a3)) then
      gd (0 ≤ (8 : Int)) <|
      gd ((8 : Int) ≤ (((IntKind.i64).bits : Nat) : Int)) <|
      gd ((([a1, [0, 0, (UInt8.ofInt (i12_1 / 2 ^ 8)), (UInt8.ofInt i12_1)]] : List (List UInt8))).length ≤ 1000000) <|
      gd ((([a1, [0, 0, (UInt8.ofInt (i12_1 / 2 ^ 8)), (UInt8.ofInt i12_1)]] : List (List UInt8))).flatten.length ≤ 1000000000) <|
      (mMark n a0 ((([a1, [0, 0, (UInt8.ofInt (i12_1 / 2 ^ 8)), (UInt8.ofInt i12_1)]] : List (List UInt8))).flatten)).bind fun r48_2 =>
      gd ((r48_2).length ≤ 1000000000000) <|
      gd (okI .i64 (a2 - 1)) <|
      mDerive_l2 n a0 a1 a2 a3 l11_1 i12_1 r48_2 (mDerive_l1 n a0 a1 a2 a3 fu_l1) n r48_2 (r48_2) 0
    else
      gd (0 ≤ a3) <|
      gd (a3 ≤ a3) <|
      gd (a3 ≤ ((l11_1.length : Nat) : Int)) <|
      some (((l11_1.drop 0).take a3.toNat), a3.toNat, none)
def mDerive (n : Nat) (a0 : List UInt8) (a1 : List UInt8) (a2 : Int) (a3 : Int) : Option (List UInt8 × Nat × Option Int) :=
  bif (decide (a3 < (0 : Int))) then
    some ([], 0, (some 1))
  else
    bif (decide (a2 < (1 : Int))) then
      some ([], 0, (some 1))
    else
      (mmay n a2).bind fun r24 =>
      bif (!((r24).isNone)) then
        some ([], 0, (some 4))
      else
        bif (decide ((256 : Int) < a3)) then
          some ([], 0, (some 4))
        else
          mDerive_l1 n a0 a1 a2 a3 n [] 1
def mup (n : Nat) : Option (Bool) :=
  (mDerive n [112, 97, 115, 115, 119, 100] [115, 97, 108, 116] 1 16).bind fun r10 =>
  (mMark n [74, 101, 102, 101] [119, 104, 97, 116, 32, 100, 111, 32, 121, 97, 32, 119, 97, 110, 116, 32, 102, 111, 114, 32, 110, 111, 116, 104, 105, 110, 103, 63]).bind fun r17 =>
  bif (r17 == ([91, 220, 193, 70, 191, 96, 117, 78, 106, 4, 36, 38, 8, 149, 117, 199, 90, 0, 63, 8, 157, 39, 57, 131, 157, 236, 88, 185, 100, 236, 56, 67] : List UInt8)) then
    bif ((r10.2.2).isNone) then
      some (r10.1 == ([85, 172, 4, 110, 86, 227, 8, 159, 236, 22, 145, 194, 37, 68, 182, 5] : List UInt8))
    else
      some false
  else
    some false

def mpadded_l1_E (a1 : UInt8) (l5_2 : List UInt8) (i18_2 : Int) : S := ⟨[(1, .c (.s (.u8 a1))), (5, .c (.wh 0)), (17, .c (.s (.k .i64 64))), (18, .c (.s (.k .i64 i18_2)))], [], [⟨.row, 5, 1, 64, .b l5_2⟩]⟩
def mpadded_l1_P (n : Nat) (a1 : UInt8) (r : List UInt8) (fu : Nat) : S → Prop := fun s => ∃ (l5_2 : List UInt8), ∃ (i18_2 : Int), s = mpadded_l1_E a1 l5_2 i18_2 ∧ mpadded_l1 n a1 fu l5_2 i18_2 = some r
theorem mpadded_l1_M {n : Nat} {a1 : UInt8} {l5_2 : List UInt8} {i18_2 : Int} {r : List UInt8} {fu : Nat} (h : mpadded_l1 n a1 fu l5_2 i18_2 = some r) : mpadded_l1_P n a1 r fu (mpadded_l1_E a1 l5_2 i18_2) := ⟨l5_2, i18_2, rfl, h⟩
def mpadded_j1_E (a1 : UInt8) (l0_2 : List UInt8) : S := ⟨[(0, .c (.wh 0)), (1, .c (.s (.u8 a1)))], [], [⟨(.ro false), 5, 1, l0_2.length, .b l0_2⟩]⟩
def mpadded_j1_P (n : Nat) (a1 : UInt8) (r : List UInt8) : S → Prop := fun s => ∃ (l0_2 : List UInt8), s = mpadded_j1_E a1 l0_2 ∧ mpadded_j1 n a1 l0_2 = some r
theorem mpadded_j1_M {n : Nat} {a1 : UInt8} {l0_2 : List UInt8} {r : List UInt8} (h : mpadded_j1 n a1 l0_2 = some r) : mpadded_j1_P n a1 r (mpadded_j1_E a1 l0_2) := ⟨l0_2, rfl, h⟩
def mpadded_R (r : List UInt8) : S := ⟨[(4, .c (.wh 0))], [], [⟨.row, 5, 1, 64, .b r⟩]⟩
def mpadded_ct (n : Nat) (r : List UInt8) : Ct := fun args H => match args with
  | [x0, x1] => (match aB H x0 with | some l0 => (match aU8 x1 with | some l1 => some ([mpadded n l0 l1 = some r], shA H.length (.c (.wh 0)), shH H.length [⟨.row, 5, 1, 64, .b r⟩]) | none => none) | none => none)
  | _ => none
theorem mpadded_ok (n : Nat) (r : List UInt8) : FnOk Tryd.prog GK 21 (mpadded_ct n r) := by
  refine ⟨fun args H g av objs hF hg ρ w vals hG hp ha => ?_, _, Tryd.func21, by kernel_rfl, by kernel_rfl⟩
  obtain ⟨x0, x1, rfl⟩ : ∃ x0 x1, args = [x0, x1] := by
    unfold mpadded_ct at hF; split at hF
    · exact ⟨_, _, rfl⟩
    · cases hF
  cases e0 : aB H x0 with
  | none => simp only [mpadded_ct, e0, reduceCtorEq] at hF
  | some l0 =>
  cases e1 : aU8 x1 with
  | none => simp only [mpadded_ct, e0, e1, reduceCtorEq] at hF
  | some l1 =>
  simp only [mpadded_ct, e0, e1, Option.some.injEq, Prod.mk.injEq] at hF
  obtain ⟨rfl, rfl, rfl⟩ := hF
  obtain ⟨v0, vals, rfl, k0, ha⟩ := F2.inv ha
  obtain ⟨v1, vals, rfl, k1, ha⟩ := F2.inv ha
  obtain rfl := F2.inv0 ha
  have hI : ∀ w', Kp (noB (fun _ => undef)) w w' → GK w' := fun _ hk => GK.keep hk.below hG
  have h : mpadded n l0 l1 = some r := hg
  obtain ⟨p0, s0, o0⟩ := aB_ok hp e0 (k0) 5
  have s1 := aU8_ok e1 (k1)
  have hR0 := rel0 (gv := (fun _ => undef)) (n := 30) (w := w) (args := [.c (.wh 0), .c (.s (.u8 l1))]) (H := [⟨.ro false, 5, 1, l0.length, .b l0⟩]) (gl := []) (hpL (ps := [p0]) (F2.cons o0 F2.nil)) (allRo_ok rfl) (F2.cons s0 (F2.cons s1 F2.nil)) GlR.nil (by simp)
  clear ha hp hg k0 k1 e0 e1
  refine calls_W Tryd.func21 rfl rfl hR0 (Q := fun e s => (e = .ret ∨ e = .normal) ∧ s = mpadded_R r) ?_ ?_
  · clear hR0
    unfold mpadded at h
    have hT := tabO_ma
    refine W_seq ?_
    refine W_reg hT ftL_nil [] [] [0, 1] [0] (s' := ⟨[(0, .c (.wh 0)), (1, .c (.s (.u8 l1)))], [], [⟨(.ro false), 5, 1, l0.length, .b l0⟩]⟩) (by kernel_rfl) allP_nil ?_
    refine W_join (mpadded_j1_P n l1 r) ?_ ?_
    · rintro _ ⟨l0_2, rfl, h⟩
      unfold mpadded_j1 at h
      refine W_seq ?_
      obtain ⟨g1, h⟩ := gd_some h
      obtain ⟨g2, h⟩ := gd_some h
      obtain ⟨g3, h⟩ := gd_some h
      refine W_reg hT ftL_nil [] [] [0, 1, 5] [0, 1] (s' := ⟨[(0, .c (.wh 0)), (1, .c (.s (.u8 l1))), (5, .c (.wh 1))], [], [⟨(.ro false), 5, 1, l0_2.length, .b l0_2⟩, ⟨.row, 5, 1, 64, .b (List.replicate 64 0)⟩]⟩) (by kernel_rfl) (allP_cons.2 ⟨g1, (allP_cons.2 ⟨g2, (allP_cons.2 ⟨g3, allP_nil⟩)⟩)⟩) ?_
      refine W_seq ?_
      refine W_reg hT ftL_nil [] [] [1, 5] [1] (s' := ⟨[(1, .c (.s (.u8 l1))), (5, .c (.wh 0))], [], [⟨.row, 5, 1, 64, .b (((List.replicate 64 0).take 0 ++ l0_2.take (min l0_2.length 64)) ++ (List.replicate 64 0).drop (0 + (min l0_2.length 64)))⟩]⟩) (by kernel_rfl) allP_nil ?_
      refine W_seq ?_
      refine W_seq ?_
      refine W_reg hT ftL_nil [] [] [1, 5, 17, 18] [0] (s' := ⟨[(1, .c (.s (.u8 l1))), (5, .c (.wh 0)), (17, .c (.s (.k .i64 64))), (18, .c (.s (.k .i64 0)))], [], [⟨.row, 5, 1, 64, .b (((List.replicate 64 0).take 0 ++ l0_2.take (min l0_2.length 64)) ++ (List.replicate 64 0).drop (0 + (min l0_2.length 64)))⟩]⟩) (by kernel_rfl) allP_nil ?_
      refine W_block ?_
      refine W_co [] [1, 5, 17, 18] [0] (s' := (mpadded_l1_E l1 (((List.replicate 64 0).take 0 ++ l0_2.take (min l0_2.length 64)) ++ (List.replicate 64 0).drop (0 + (min l0_2.length 64))) 0)) (by kernel_rfl) (W_lp ((mpadded_l1_P n l1 r)) n (mpadded_l1_M h) ?_)
      rintro fu_l1 _ ⟨l5_2, i18_2, rfl, h⟩
      cases fu_l1 with
      | zero => cases h
      | succ fu_l1 =>
        refine ⟨fu_l1, rfl, ?_⟩
        rw [mpadded_l1] at h
        refine W_seq ?_
        refine W_reg hT ftL_nil [] [] [1, 5, 17, 18, 19] [0] (s' := ⟨[(1, .c (.s (.u8 l1))), (5, .c (.wh 0)), (17, .c (.s (.k .i64 64))), (18, .c (.s (.k .i64 i18_2))), (19, .c (.s (.b (decide (i18_2 < (64 : Int))))))], [], [⟨.row, 5, 1, 64, .b l5_2⟩]⟩) (by kernel_rfl) allP_nil ?_
        refine W_seq ?_
        refine W_cond (b := (decide (i18_2 < (64 : Int)))) (by kernel_rfl) (fun g9 => ?_) (fun g9 => ?_)
        · replace h := bif_t h g9
          refine W_co [] [1, 5, 17, 18] [0] (s' := ⟨[(1, .c (.s (.u8 l1))), (5, .c (.wh 0)), (17, .c (.s (.k .i64 64))), (18, .c (.s (.k .i64 i18_2)))], [], [⟨.row, 5, 1, 64, .b l5_2⟩]⟩) (by kernel_rfl) (W_skip ?_)
          refine W_seq ?_
          refine W_block ?_
          refine W_seq ?_
          refine W_reg hT ftL_nil [] [] [1, 5, 6, 17, 18] [0] (s' := ⟨[(1, .c (.s (.u8 l1))), (5, .c (.wh 0)), (6, .c (.s (.k .i64 i18_2))), (17, .c (.s (.k .i64 64))), (18, .c (.s (.k .i64 i18_2)))], [], [⟨.row, 5, 1, 64, .b l5_2⟩]⟩) (by kernel_rfl) allP_nil ?_
          obtain ⟨g4, h⟩ := gd_some h
          obtain ⟨g5, h⟩ := gd_some h
          obtain ⟨g6, h⟩ := gd_some h
          obtain ⟨g7, h⟩ := gd_some h
          refine W_reg hT ftL_nil [] [] [1, 5, 17, 18] [0] (s' := ⟨[(1, .c (.s (.u8 l1))), (5, .c (.wh 0)), (17, .c (.s (.k .i64 64))), (18, .c (.s (.k .i64 i18_2)))], [], [⟨.row, 5, 1, 64, .b (l5_2.set i18_2.toNat ((l5_2.getD i18_2.toNat 0) ^^^ l1))⟩]⟩) (by kernel_rfl) (allP_cons.2 ⟨g4, (allP_cons.2 ⟨g5, (allP_cons.2 ⟨g6, (allP_cons.2 ⟨g7, allP_nil⟩)⟩)⟩)⟩) ?_
          obtain ⟨g8, h⟩ := gd_some h
          refine W_reg hT ftL_nil [] [] [1, 5, 17, 18] [0] (s' := (mpadded_l1_E l1 (l5_2.set i18_2.toNat ((l5_2.getD i18_2.toNat 0) ^^^ l1)) (i18_2 + 1))) (by kernel_rfl) (allP_cons.2 ⟨g8, allP_nil⟩) ?_
          exact mpadded_l1_M h
        · replace h := bif_f h g9
          refine W_co [] [5] [0] (s' := ⟨[(5, .c (.wh 0))], [], [⟨.row, 5, 1, 64, .b l5_2⟩]⟩) (by kernel_rfl) (W_exit ?_)
          refine W_seq ?_
          refine W_reg hT ftL_nil [] [] [4] [0] (s' := ⟨[(4, .c (.wh 0))], [], [⟨.row, 5, 1, 64, .b l5_2⟩]⟩) (by kernel_rfl) allP_nil ?_
          refine W_co [] [4] [0] (s' := (mpadded_R l5_2)) (by kernel_rfl) (W_ret ?_)
          exact ⟨.inl rfl, by cases h; rfl⟩
    · refine W_seq ?_
      refine W_reg hT ftL_nil [] [] [0, 1, 9] [0] (s' := ⟨[(0, .c (.wh 0)), (1, .c (.s (.u8 l1))), (9, .c (.s (.b (decide ((64 : Int) < ((l0.length : Nat) : Int))))))], [], [⟨(.ro false), 5, 1, l0.length, .b l0⟩]⟩) (by kernel_rfl) allP_nil ?_
      refine W_cond (b := (decide ((64 : Int) < ((l0.length : Nat) : Int)))) (by kernel_rfl) (fun g11 => ?_) (fun g11 => ?_)
      · replace h := bif_t h g11
        obtain ⟨g10, h⟩ := gd_some h
        refine W_reg hT (ftL_cons (k := 1) (f := 19) (F := sum_ct) sum_h hI ftL_nil) [] [.vw 0 false] [0, 1] [2] (s' := (mpadded_j1_E l1 (digest consts begin8 l0))) (by kernel_rfl) (allP_cons.2 ⟨g10, allP_nil⟩) ?_
        exact mpadded_j1_M h
      · replace h := bif_f h g11
        refine W_co [] [0, 1] [0] (s' := (mpadded_j1_E l1 l0)) (by kernel_rfl) (W_skip ?_)
        exact mpadded_j1_M h
  · rintro e s' ⟨he, rfl⟩
    refine ⟨he, fun a' w' hr => ?_⟩
    exact retS_ok tabO_ma hr (rs := [.tmp 4]) rfl (objs := [0]) (by kernel_rfl)
def mMark_R (r : List UInt8) : S := ⟨[(4, .c (.wh 0))], [], [⟨.row, 5, 1, r.length, .b r⟩]⟩
def mMark_ct (n : Nat) (r : List UInt8) : Ct := fun args H => match args with
  | [x0, x1] => (match aB H x0 with | some l0 => (match aB H x1 with | some l1 => some ([mMark n l0 l1 = some r], shA H.length (.c (.wh 0)), shH H.length [⟨.row, 5, 1, r.length, .b r⟩]) | none => none) | none => none)
  | _ => none
theorem mMark_ok (n : Nat) (r : List UInt8) : FnOk Tryd.prog GK 11 (mMark_ct n r) := by
  refine ⟨fun args H g av objs hF hg ρ w vals hG hp ha => ?_, _, Tryd.func11, by kernel_rfl, by kernel_rfl⟩
  obtain ⟨x0, x1, rfl⟩ : ∃ x0 x1, args = [x0, x1] := by
    unfold mMark_ct at hF; split at hF
    · exact ⟨_, _, rfl⟩
    · cases hF
  cases e0 : aB H x0 with
  | none => simp only [mMark_ct, e0, reduceCtorEq] at hF
  | some l0 =>
  cases e1 : aB H x1 with
  | none => simp only [mMark_ct, e0, e1, reduceCtorEq] at hF
  | some l1 =>
  simp only [mMark_ct, e0, e1, Option.some.injEq, Prod.mk.injEq] at hF
  obtain ⟨rfl, rfl, rfl⟩ := hF
  obtain ⟨v0, vals, rfl, k0, ha⟩ := F2.inv ha
  obtain ⟨v1, vals, rfl, k1, ha⟩ := F2.inv ha
  obtain rfl := F2.inv0 ha
  have hI : ∀ w', Kp (noB (fun _ => undef)) w w' → GK w' := fun _ hk => GK.keep hk.below hG
  have h : mMark n l0 l1 = some r := hg
  obtain ⟨p0, s0, o0⟩ := aB_ok hp e0 (k0) 5
  obtain ⟨p1, s1, o1⟩ := aB_ok hp e1 (k1) 5
  have hR0 := rel0 (gv := (fun _ => undef)) (n := 18) (w := w) (args := [.c (.wh 0), .c (.wh 1)]) (H := [⟨.ro false, 5, 1, l0.length, .b l0⟩, ⟨.ro false, 5, 1, l1.length, .b l1⟩]) (gl := []) (hpL (ps := [p0, p1]) (F2.cons o0 (F2.cons o1 F2.nil))) (allRo_ok rfl) (F2.cons s0 (F2.cons s1 F2.nil)) GlR.nil (by simp)
  clear ha hp hg k0 k1 e0 e1
  refine calls_W Tryd.func11 rfl rfl hR0 (Q := fun e s => (e = .ret ∨ e = .normal) ∧ s = mMark_R r) ?_ ?_
  · clear hR0
    unfold mMark at h
    have hT := tabO_ma
    refine W_seq ?_
    refine W_reg hT ftL_nil [] [] [0, 1] [0, 1] (s' := ⟨[(0, .c (.wh 0)), (1, .c (.wh 1))], [], [⟨(.ro false), 5, 1, l0.length, .b l0⟩, ⟨(.ro false), 5, 1, l1.length, .b l1⟩]⟩) (by kernel_rfl) allP_nil ?_
    refine W_seq ?_
    obtain ⟨r7, g1, h⟩ := bind_some' h
    obtain ⟨g2, h⟩ := gd_some h
    obtain ⟨g3, h⟩ := gd_some h
    obtain ⟨g4, h⟩ := gd_some h
    refine W_reg hT (ftL_cons (k := 1) (f := 21) (F := (mpadded_ct n r7)) (mpadded_ok n r7) hI (ftL_cons (k := 4) (f := 20) (F := cat_ct) cat_h (fun _ _ => True.intro) (ftL_cons (k := 5) (f := 19) (F := sum_ct) sum_h hI ftL_nil))) [] [] [0, 5] [0, 5] (s' := ⟨[(0, .c (.wh 0)), (5, .c (.wh 1))], [], [⟨(.ro false), 5, 1, l0.length, .b l0⟩, ⟨.row, 5, 1, (digest consts begin8 ((([r7, l1] : List (List UInt8))).flatten)).length, .b (digest consts begin8 ((([r7, l1] : List (List UInt8))).flatten))⟩]⟩) (by kernel_rfl) (allP_cons.2 ⟨g1, (allP_cons.2 ⟨g2, (allP_cons.2 ⟨g3, (allP_cons.2 ⟨g4, allP_nil⟩)⟩)⟩)⟩) ?_
    refine W_seq ?_
    obtain ⟨r13, g5, h⟩ := bind_some' h
    obtain ⟨g6, h⟩ := gd_some h
    obtain ⟨g7, h⟩ := gd_some h
    obtain ⟨g8, h⟩ := gd_some h
    refine W_reg hT (ftL_cons (k := 1) (f := 21) (F := (mpadded_ct n r13)) (mpadded_ok n r13) hI (ftL_cons (k := 4) (f := 20) (F := cat_ct) cat_h (fun _ _ => True.intro) (ftL_cons (k := 5) (f := 19) (F := sum_ct) sum_h hI ftL_nil))) [] [] [4] [5] (s' := ⟨[(4, .c (.wh 0))], [], [⟨.row, 5, 1, (digest consts begin8 ((([r13, (digest consts begin8 ((([r7, l1] : List (List UInt8))).flatten))] : List (List UInt8))).flatten)).length, .b (digest consts begin8 ((([r13, (digest consts begin8 ((([r7, l1] : List (List UInt8))).flatten))] : List (List UInt8))).flatten))⟩]⟩) (by kernel_rfl) (allP_cons.2 ⟨g5, (allP_cons.2 ⟨g6, (allP_cons.2 ⟨g7, (allP_cons.2 ⟨g8, allP_nil⟩)⟩)⟩)⟩) ?_
    refine W_co [] [4] [0] (s' := (mMark_R (digest consts begin8 ((([r13, (digest consts begin8 ((([r7, l1] : List (List UInt8))).flatten))] : List (List UInt8))).flatten)))) (by kernel_rfl) (W_ret ?_)
    exact ⟨.inl rfl, by cases h; rfl⟩
  · rintro e s' ⟨he, rfl⟩
    refine ⟨he, fun a' w' hr => ?_⟩
    exact retS_ok tabO_ma hr (rs := [.tmp 4]) rfl (objs := [0]) (by kernel_rfl)
def mmay_R (r : Option Int) : S := ⟨[(2, .c (.s (.er 38 .i64 r)))], [], []⟩
def mmay_ct (n : Nat) (r : Option Int) : Ct := fun args H => match args with
  | [x0] => (match aI x0 with | some l0 => some ([mmay n l0 = some r], shA H.length (.c (.s (.er 38 .i64 r))), shH H.length []) | none => none)
  | _ => none
theorem mmay_ok (n : Nat) (r : Option Int) : FnOk Tryd.prog Tr 25 (mmay_ct n r) := by
  refine ⟨fun args H g av objs hF hg ρ w vals hG hp ha => ?_, _, Tryd.func25, by kernel_rfl, by kernel_rfl⟩
  obtain ⟨x0, rfl⟩ : ∃ x0, args = [x0] := by
    unfold mmay_ct at hF; split at hF
    · exact ⟨_, rfl⟩
    · cases hF
  cases e0 : aI x0 with
  | none => simp only [mmay_ct, e0, reduceCtorEq] at hF
  | some l0 =>
  simp only [mmay_ct, e0, Option.some.injEq, Prod.mk.injEq] at hF
  obtain ⟨rfl, rfl, rfl⟩ := hF
  obtain ⟨v0, vals, rfl, k0, ha⟩ := F2.inv ha
  obtain rfl := F2.inv0 ha
  have hI : ∀ w', Kp (noB (fun _ => undef)) w w' → Tr w' := fun _ hk => Tr.keep hk.below hG
  have h : mmay n l0 = some r := hg
  have s0 := aI_ok e0 (k0)
  have hR0 := rel0 (gv := (fun _ => undef)) (n := 11) (w := w) (args := [.c (.s (.k .i64 l0))]) (H := []) (gl := []) (hpL (ps := []) F2.nil) (allRo_ok rfl) (F2.cons s0 F2.nil) GlR.nil (by simp)
  clear ha hp hg k0 e0
  refine calls_W Tryd.func25 rfl rfl hR0 (Q := fun e s => (e = .ret ∨ e = .normal) ∧ s = mmay_R r) ?_ ?_
  · clear hR0
    unfold mmay at h
    have hT := tabO_ma
    refine W_seq ?_
    refine W_reg hT ftL_nil [] [] [0] [] (s' := ⟨[(0, .c (.s (.k .i64 l0)))], [], []⟩) (by kernel_rfl) allP_nil ?_
    refine W_seq ?_
    refine W_block ?_
    refine W_seq ?_
    refine W_reg hT ftL_nil [] [] [0, 3] [] (s' := ⟨[(0, .c (.s (.k .i64 l0))), (3, .c (.s (.b (decide (l0 < (1 : Int))))))], [], []⟩) (by kernel_rfl) allP_nil ?_
    refine W_cond (b := (decide (l0 < (1 : Int)))) (by kernel_rfl) (fun g2 => ?_) (fun g2 => ?_)
    · replace h := bif_t h g2
      refine W_seq ?_
      refine W_reg hT ftL_nil [] [] [2] [] (s' := ⟨[(2, .c (.s (.er 38 .i64 (some 1))))], [], []⟩) (by kernel_rfl) allP_nil ?_
      refine W_co [] [2] [] (s' := (mmay_R (some 1))) (by kernel_rfl) (W_ret ?_)
      exact ⟨.inl rfl, by cases h; rfl⟩
    · replace h := bif_f h g2
      refine W_seq ?_
      refine W_reg hT ftL_nil [] [] [7] [] (s' := ⟨[(7, .c (.s (.b (decide ((10000 : Int) < l0)))))], [], []⟩) (by kernel_rfl) allP_nil ?_
      refine W_cond (b := (decide ((10000 : Int) < l0))) (by kernel_rfl) (fun g1 => ?_) (fun g1 => ?_)
      · replace h := bif_t h g1
        refine W_seq ?_
        refine W_reg hT ftL_nil [] [] [2] [] (s' := ⟨[(2, .c (.s (.er 38 .i64 (some 4))))], [], []⟩) (by kernel_rfl) allP_nil ?_
        refine W_co [] [2] [] (s' := (mmay_R (some 4))) (by kernel_rfl) (W_ret ?_)
        exact ⟨.inl rfl, by cases h; rfl⟩
      · replace h := bif_f h g1
        refine W_co [] [] [] (s' := ⟨[], [], []⟩) (by kernel_rfl) (W_skip ?_)
        refine W_seq ?_
        refine W_reg hT ftL_nil [] [] [2] [] (s' := ⟨[(2, .c (.s (.v .nilIface)))], [], []⟩) (by kernel_rfl) allP_nil ?_
        refine W_co [.er 2 38 .i64] [2] [] (s' := (mmay_R none)) (by kernel_rfl) (W_ret ?_)
        exact ⟨.inl rfl, by cases h; rfl⟩
  · rintro e s' ⟨he, rfl⟩
    refine ⟨he, fun a' w' hr => ?_⟩
    exact retS_ok tabO_ma hr (rs := [.tmp 2]) rfl (objs := []) (by kernel_rfl)
def mDerive_l3_E (a0 : List UInt8) (a1 : List UInt8) (a2 : Int) (a3 : Int) (l11_1 : List UInt8) (i12_1 : Int) (r48_2 : List UInt8) (i53_5 : Int) (r57_8 : List UInt8) (l14_23 : List UInt8) (i60_17 : Int) : S := ⟨[(0, .c (.wh 0)), (1, .c (.wh 1)), (2, .c (.s (.k .i64 a2))), (3, .c (.s (.k .i64 a3))), (11, .c (.wh 2)), (12, .c (.s (.k .i64 i12_1))), (13, .c (.wh 3)), (14, .c (.wh 4)), (52, .c (.s (.k .i64 (a2 - 1)))), (53, .c (.s (.k .i64 i53_5))), (59, .c (.s (.k .i64 (((r48_2).length : Nat) : Int)))), (60, .c (.s (.k .i64 i60_17)))], [], [⟨(.ro false), 5, 1, a0.length, .b a0⟩, ⟨(.ro false), 5, 1, a1.length, .b a1⟩, ⟨.row, 5, 1, l11_1.length, .b l11_1⟩, ⟨.row, 5, 1, r57_8.length, .b r57_8⟩, ⟨.row, 5, 1, (r48_2).length, .b l14_23⟩]⟩
def mDerive_l3_P (n : Nat) (a0 : List UInt8) (a1 : List UInt8) (a2 : Int) (a3 : Int) (l11_1 : List UInt8) (i12_1 : Int) (r48_2 : List UInt8) (i53_5 : Int) (r57_8 : List UInt8) (k_l2 : (List UInt8) → (List UInt8) → Int → Option (List UInt8 × Nat × Option Int)) (r : List UInt8 × Nat × Option Int) (fu : Nat) : S → Prop := fun s => ∃ (l14_23 : List UInt8), ∃ (i60_17 : Int), s = mDerive_l3_E a0 a1 a2 a3 l11_1 i12_1 r48_2 i53_5 r57_8 l14_23 i60_17 ∧ mDerive_l3 n a0 a1 a2 a3 l11_1 i12_1 r48_2 i53_5 r57_8 k_l2 fu l14_23 i60_17 = some r
theorem mDerive_l3_M {n : Nat} {a0 : List UInt8} {a1 : List UInt8} {a2 : Int} {a3 : Int} {l11_1 : List UInt8} {i12_1 : Int} {r48_2 : List UInt8} {i53_5 : Int} {r57_8 : List UInt8} {k_l2 : (List UInt8) → (List UInt8) → Int → Option (List UInt8 × Nat × Option Int)} {l14_23 : List UInt8} {i60_17 : Int} {r : List UInt8 × Nat × Option Int} {fu : Nat} (h : mDerive_l3 n a0 a1 a2 a3 l11_1 i12_1 r48_2 i53_5 r57_8 k_l2 fu l14_23 i60_17 = some r) : mDerive_l3_P n a0 a1 a2 a3 l11_1 i12_1 r48_2 i53_5 r57_8 k_l2 r fu (mDerive_l3_E a0 a1 a2 a3 l11_1 i12_1 r48_2 i53_5 r57_8 l14_23 i60_17) := ⟨l14_23, i60_17, rfl, h⟩
def mDerive_l2_E (a0 : List UInt8) (a1 : List UInt8) (a2 : Int) (a3 : Int) (l11_1 : List UInt8) (i12_1 : Int) (r48_2 : List UInt8) (l13_5 : List UInt8) (l14_21 : List UInt8) (i53_5 : Int) : S := ⟨[(0, .c (.wh 0)), (1, .c (.wh 1)), (2, .c (.s (.k .i64 a2))), (3, .c (.s (.k .i64 a3))), (11, .c (.wh 2)), (12, .c (.s (.k .i64 i12_1))), (13, .c (.wh 3)), (14, .c (.wh 4)), (52, .c (.s (.k .i64 (a2 - 1)))), (53, .c (.s (.k .i64 i53_5)))], [], [⟨(.ro false), 5, 1, a0.length, .b a0⟩, ⟨(.ro false), 5, 1, a1.length, .b a1⟩, ⟨.row, 5, 1, l11_1.length, .b l11_1⟩, ⟨.row, 5, 1, l13_5.length, .b l13_5⟩, ⟨.row, 5, 1, (r48_2).length, .b l14_21⟩]⟩
def mDerive_l2_P (n : Nat) (a0 : List UInt8) (a1 : List UInt8) (a2 : Int) (a3 : Int) (l11_1 : List UInt8) (i12_1 : Int) (r48_2 : List UInt8) (k_l1 : (List UInt8) → Int → Option (List UInt8 × Nat × Option Int)) (r : List UInt8 × Nat × Option Int) (fu : Nat) : S → Prop := fun s => ∃ (l13_5 : List UInt8), ∃ (l14_21 : List UInt8), ∃ (i53_5 : Int), s = mDerive_l2_E a0 a1 a2 a3 l11_1 i12_1 r48_2 l13_5 l14_21 i53_5 ∧ mDerive_l2 n a0 a1 a2 a3 l11_1 i12_1 r48_2 k_l1 fu l13_5 l14_21 i53_5 = some r
theorem mDerive_l2_M {n : Nat} {a0 : List UInt8} {a1 : List UInt8} {a2 : Int} {a3 : Int} {l11_1 : List UInt8} {i12_1 : Int} {r48_2 : List UInt8} {k_l1 : (List UInt8) → Int → Option (List UInt8 × Nat × Option Int)} {l13_5 : List UInt8} {l14_21 : List UInt8} {i53_5 : Int} {r : List UInt8 × Nat × Option Int} {fu : Nat} (h : mDerive_l2 n a0 a1 a2 a3 l11_1 i12_1 r48_2 k_l1 fu l13_5 l14_21 i53_5 = some r) : mDerive_l2_P n a0 a1 a2 a3 l11_1 i12_1 r48_2 k_l1 r fu (mDerive_l2_E a0 a1 a2 a3 l11_1 i12_1 r48_2 l13_5 l14_21 i53_5) := ⟨l13_5, l14_21, i53_5, rfl, h⟩
def mDerive_l1_E (a0 : List UInt8) (a1 : List UInt8) (a2 : Int) (a3 : Int) (l11_1 : List UInt8) (i12_1 : Int) : S := ⟨[(0, .c (.wh 0)), (1, .c (.wh 1)), (2, .c (.s (.k .i64 a2))), (3, .c (.s (.k .i64 a3))), (11, .c (.wh 2)), (12, .c (.s (.k .i64 i12_1)))], [], [⟨(.ro false), 5, 1, a0.length, .b a0⟩, ⟨(.ro false), 5, 1, a1.length, .b a1⟩, ⟨.row, 5, 1, l11_1.length, .b l11_1⟩]⟩
def mDerive_l1_P (n : Nat) (a0 : List UInt8) (a1 : List UInt8) (a2 : Int) (a3 : Int) (r : List UInt8 × Nat × Option Int) (fu : Nat) : S → Prop := fun s => ∃ (l11_1 : List UInt8), ∃ (i12_1 : Int), s = mDerive_l1_E a0 a1 a2 a3 l11_1 i12_1 ∧ mDerive_l1 n a0 a1 a2 a3 fu l11_1 i12_1 = some r
theorem mDerive_l1_M {n : Nat} {a0 : List UInt8} {a1 : List UInt8} {a2 : Int} {a3 : Int} {l11_1 : List UInt8} {i12_1 : Int} {r : List UInt8 × Nat × Option Int} {fu : Nat} (h : mDerive_l1 n a0 a1 a2 a3 fu l11_1 i12_1 = some r) : mDerive_l1_P n a0 a1 a2 a3 r fu (mDerive_l1_E a0 a1 a2 a3 l11_1 i12_1) := ⟨l11_1, i12_1, rfl, h⟩
def mDerive_R (r : List UInt8 × Nat × Option Int) : S := ⟨[(8, .c (.wh 0)), (9, .c (.s (.er 38 .i64 r.2.2)))], [], [⟨(.ro true), 5, 1, r.2.1, .b r.1⟩]⟩
def mDerive_ct (n : Nat) (r : List UInt8 × Nat × Option Int) : Ct := fun args H => match args with
  | [x0, x1, x2, x3] => (match aB H x0 with | some l0 => (match aB H x1 with | some l1 => (match aI x2 with | some l2 => (match aI x3 with | some l3 => some ([mDerive n l0 l1 l2 l3 = some r], shA H.length (.t [.c (.wh 0), .c (.s (.er 38 .i64 r.2.2))]), shH H.length [⟨(.ro true), 5, 1, r.2.1, .b r.1⟩]) | none => none) | none => none) | none => none) | none => none)
  | _ => none
theorem mDerive_ok (n : Nat) (r : List UInt8 × Nat × Option Int) : FnOk Tryd.prog GK 14 (mDerive_ct n r) := by
  refine ⟨fun args H g av objs hF hg ρ w vals hG hp ha => ?_, _, Tryd.func14, by kernel_rfl, by kernel_rfl⟩
  obtain ⟨x0, x1, x2, x3, rfl⟩ : ∃ x0 x1 x2 x3, args = [x0, x1, x2, x3] := by
    unfold mDerive_ct at hF; split at hF
    · exact ⟨_, _, _, _, rfl⟩
    · cases hF
  cases e0 : aB H x0 with
  | none => simp only [mDerive_ct, e0, reduceCtorEq] at hF
  | some l0 =>
  cases e1 : aB H x1 with
  | none => simp only [mDerive_ct, e0, e1, reduceCtorEq] at hF
  | some l1 =>
  cases e2 : aI x2 with
  | none => simp only [mDerive_ct, e0, e1, e2, reduceCtorEq] at hF
  | some l2 =>
  cases e3 : aI x3 with
  | none => simp only [mDerive_ct, e0, e1, e2, e3, reduceCtorEq] at hF
  | some l3 =>
  simp only [mDerive_ct, e0, e1, e2, e3, Option.some.injEq, Prod.mk.injEq] at hF
  obtain ⟨rfl, rfl, rfl⟩ := hF
  obtain ⟨v0, vals, rfl, k0, ha⟩ := F2.inv ha
  obtain ⟨v1, vals, rfl, k1, ha⟩ := F2.inv ha
  obtain ⟨v2, vals, rfl, k2, ha⟩ := F2.inv ha
  obtain ⟨v3, vals, rfl, k3, ha⟩ := F2.inv ha
  obtain rfl := F2.inv0 ha
  have hI : ∀ w', Kp (noB (fun _ => undef)) w w' → GK w' := fun _ hk => GK.keep hk.below hG
  have h : mDerive n l0 l1 l2 l3 = some r := hg
  obtain ⟨p0, s0, o0⟩ := aB_ok hp e0 (k0) 5
  obtain ⟨p1, s1, o1⟩ := aB_ok hp e1 (k1) 5
  have s2 := aI_ok e2 (k2)
  have s3 := aI_ok e3 (k3)
  have hR0 := rel0 (gv := (fun _ => undef)) (n := 82) (w := w) (args := [.c (.wh 0), .c (.wh 1), .c (.s (.k .i64 l2)), .c (.s (.k .i64 l3))]) (H := [⟨.ro false, 5, 1, l0.length, .b l0⟩, ⟨.ro false, 5, 1, l1.length, .b l1⟩]) (gl := []) (hpL (ps := [p0, p1]) (F2.cons o0 (F2.cons o1 F2.nil))) (allRo_ok rfl) (F2.cons s0 (F2.cons s1 (F2.cons s2 (F2.cons s3 F2.nil)))) GlR.nil (by simp)
  clear ha hp hg k0 k1 k2 k3 e0 e1 e2 e3
  refine calls_W Tryd.func14 rfl rfl hR0 (Q := fun e s => (e = .ret ∨ e = .normal) ∧ s = mDerive_R r) ?_ ?_
  · clear hR0
    unfold mDerive at h
    have hT := tabO_ma
    refine W_seq ?_
    refine W_reg hT ftL_nil [] [] [0, 1, 2, 3] [0, 1] (s' := ⟨[(0, .c (.wh 0)), (1, .c (.wh 1)), (2, .c (.s (.k .i64 l2))), (3, .c (.s (.k .i64 l3)))], [], [⟨(.ro false), 5, 1, l0.length, .b l0⟩, ⟨(.ro false), 5, 1, l1.length, .b l1⟩]⟩) (by kernel_rfl) allP_nil ?_
    refine W_seq ?_
    refine W_seq ?_
    rcases Bool.eq_false_or_eq_true (decide (l3 < (0 : Int))) with g1 | g1
    · replace h := bif_t h g1
      refine W_reg hT ftL_nil [(2, true)] [] [0, 1, 2, 3, 21] [0, 1] (s' := ⟨[(0, .c (.wh 0)), (1, .c (.wh 1)), (2, .c (.s (.k .i64 l2))), (3, .c (.s (.k .i64 l3))), (21, .c (.s (.b true)))], [], [⟨(.ro false), 5, 1, l0.length, .b l0⟩, ⟨(.ro false), 5, 1, l1.length, .b l1⟩]⟩) (by kernel_rfl) (allP_cons.2 ⟨g1, allP_nil⟩) ?_
      refine W_cond (b := true) (by kernel_rfl) (fun _ => ?_) (fun hb => by cases hb)
      refine W_seq ?_
      refine W_reg hT ftL_nil [] [] [8, 9] [] (s' := ⟨[(8, .c (.nils)), (9, .c (.s (.er 38 .i64 (some 1))))], [], []⟩) (by kernel_rfl) allP_nil ?_
      refine W_co [.emp 8 5 1 (.b []) true] [8, 9] [0] (s' := (mDerive_R ([], 0, (some 1)))) (by kernel_rfl) (W_ret ?_)
      exact ⟨.inl rfl, by cases h; rfl⟩
    · replace h := bif_f h g1
      refine W_reg hT ftL_nil [(2, false)] [] [0, 1, 2, 3, 21] [0, 1] (s' := ⟨[(0, .c (.wh 0)), (1, .c (.wh 1)), (2, .c (.s (.k .i64 l2))), (3, .c (.s (.k .i64 l3))), (21, .c (.s (.b (decide (l2 < (1 : Int))))))], [], [⟨(.ro false), 5, 1, l0.length, .b l0⟩, ⟨(.ro false), 5, 1, l1.length, .b l1⟩]⟩) (by kernel_rfl) (allP_cons.2 ⟨g1, allP_nil⟩) ?_
      refine W_cond (b := (decide (l2 < (1 : Int)))) (by kernel_rfl) (fun g29 => ?_) (fun g29 => ?_)
      · replace h := bif_t h g29
        refine W_seq ?_
        refine W_reg hT ftL_nil [] [] [8, 9] [] (s' := ⟨[(8, .c (.nils)), (9, .c (.s (.er 38 .i64 (some 1))))], [], []⟩) (by kernel_rfl) allP_nil ?_
        refine W_co [.emp 8 5 1 (.b []) true] [8, 9] [0] (s' := (mDerive_R ([], 0, (some 1)))) (by kernel_rfl) (W_ret ?_)
        exact ⟨.inl rfl, by cases h; rfl⟩
      · replace h := bif_f h g29
        refine W_co [] [0, 1, 2, 3] [0, 1] (s' := ⟨[(0, .c (.wh 0)), (1, .c (.wh 1)), (2, .c (.s (.k .i64 l2))), (3, .c (.s (.k .i64 l3)))], [], [⟨(.ro false), 5, 1, l0.length, .b l0⟩, ⟨(.ro false), 5, 1, l1.length, .b l1⟩]⟩) (by kernel_rfl) (W_skip ?_)
        refine W_seq ?_
        refine W_seq ?_
        obtain ⟨r24, g2, h⟩ := bind_some' h
        refine W_reg hT (ftL_cons (k := 1) (f := 25) (F := (mmay_ct n r24)) (mmay_ok n r24) (fun _ _ => True.intro) ftL_nil) [] [] [0, 1, 2, 3, 10] [0, 1] (s' := ⟨[(0, .c (.wh 0)), (1, .c (.wh 1)), (2, .c (.s (.k .i64 l2))), (3, .c (.s (.k .i64 l3))), (10, .c (.s (.er 38 .i64 r24)))], [], [⟨(.ro false), 5, 1, l0.length, .b l0⟩, ⟨(.ro false), 5, 1, l1.length, .b l1⟩]⟩) (by kernel_rfl) (allP_cons.2 ⟨g2, allP_nil⟩) ?_
        refine W_seq ?_
        rcases Bool.eq_false_or_eq_true (!((r24).isNone)) with g3 | g3
        · replace h := bif_t h g3
          refine W_reg hT ftL_nil [(2, true)] [] [0, 1, 2, 3, 30] [0, 1] (s' := ⟨[(0, .c (.wh 0)), (1, .c (.wh 1)), (2, .c (.s (.k .i64 l2))), (3, .c (.s (.k .i64 l3))), (30, .c (.s (.b true)))], [], [⟨(.ro false), 5, 1, l0.length, .b l0⟩, ⟨(.ro false), 5, 1, l1.length, .b l1⟩]⟩) (by kernel_rfl) (allP_cons.2 ⟨g3, allP_nil⟩) ?_
          refine W_cond (b := true) (by kernel_rfl) (fun _ => ?_) (fun hb => by cases hb)
          refine W_seq ?_
          refine W_reg hT ftL_nil [] [] [8, 9] [] (s' := ⟨[(8, .c (.nils)), (9, .c (.s (.er 38 .i64 (some 4))))], [], []⟩) (by kernel_rfl) allP_nil ?_
          refine W_co [.emp 8 5 1 (.b []) true] [8, 9] [0] (s' := (mDerive_R ([], 0, (some 4)))) (by kernel_rfl) (W_ret ?_)
          exact ⟨.inl rfl, by cases h; rfl⟩
        · replace h := bif_f h g3
          refine W_reg hT ftL_nil [(2, false)] [] [0, 1, 2, 3, 30] [0, 1] (s' := ⟨[(0, .c (.wh 0)), (1, .c (.wh 1)), (2, .c (.s (.k .i64 l2))), (3, .c (.s (.k .i64 l3))), (30, .c (.s (.b (decide ((256 : Int) < l3)))))], [], [⟨(.ro false), 5, 1, l0.length, .b l0⟩, ⟨(.ro false), 5, 1, l1.length, .b l1⟩]⟩) (by kernel_rfl) (allP_cons.2 ⟨g3, allP_nil⟩) ?_
          refine W_cond (b := (decide ((256 : Int) < l3))) (by kernel_rfl) (fun g28 => ?_) (fun g28 => ?_)
          · replace h := bif_t h g28
            refine W_seq ?_
            refine W_reg hT ftL_nil [] [] [8, 9] [] (s' := ⟨[(8, .c (.nils)), (9, .c (.s (.er 38 .i64 (some 4))))], [], []⟩) (by kernel_rfl) allP_nil ?_
            refine W_co [.emp 8 5 1 (.b []) true] [8, 9] [0] (s' := (mDerive_R ([], 0, (some 4)))) (by kernel_rfl) (W_ret ?_)
            exact ⟨.inl rfl, by cases h; rfl⟩
          · replace h := bif_f h g28
            refine W_co [] [0, 1, 2, 3] [0, 1] (s' := ⟨[(0, .c (.wh 0)), (1, .c (.wh 1)), (2, .c (.s (.k .i64 l2))), (3, .c (.s (.k .i64 l3)))], [], [⟨(.ro false), 5, 1, l0.length, .b l0⟩, ⟨(.ro false), 5, 1, l1.length, .b l1⟩]⟩) (by kernel_rfl) (W_skip ?_)
            refine W_seq ?_
            refine W_reg hT ftL_nil [] [] [0, 1, 2, 3, 11] [0, 1] (s' := ⟨[(0, .c (.wh 0)), (1, .c (.wh 1)), (2, .c (.s (.k .i64 l2))), (3, .c (.s (.k .i64 l3))), (11, .c (.nils))], [], [⟨(.ro false), 5, 1, l0.length, .b l0⟩, ⟨(.ro false), 5, 1, l1.length, .b l1⟩]⟩) (by kernel_rfl) allP_nil ?_
            refine W_seq ?_
            refine W_seq ?_
            refine W_reg hT ftL_nil [] [] [0, 1, 2, 3, 11, 12] [0, 1] (s' := ⟨[(0, .c (.wh 0)), (1, .c (.wh 1)), (2, .c (.s (.k .i64 l2))), (3, .c (.s (.k .i64 l3))), (11, .c (.nils)), (12, .c (.s (.k .i64 1)))], [], [⟨(.ro false), 5, 1, l0.length, .b l0⟩, ⟨(.ro false), 5, 1, l1.length, .b l1⟩]⟩) (by kernel_rfl) allP_nil ?_
            refine W_block ?_
            refine W_co [.nil 11 5 1 (.b [])] [0, 1, 2, 3, 11, 12] [0, 1, 2] (s' := (mDerive_l1_E l0 l1 l2 l3 [] 1)) (by kernel_rfl) (W_lp ((mDerive_l1_P n l0 l1 l2 l3 r)) n (mDerive_l1_M h) ?_)
            rintro fu_l1 _ ⟨l11_1, i12_1, rfl, h⟩
            cases fu_l1 with
            | zero => cases h
            | succ fu_l1 =>
              refine ⟨fu_l1, rfl, ?_⟩
              rw [mDerive_l1] at h
              refine W_seq ?_
              refine W_seq ?_
              refine W_reg hT ftL_nil [] [] [0, 1, 2, 3, 11, 12, 35] [0, 1, 2] (s' := ⟨[(0, .c (.wh 0)), (1, .c (.wh 1)), (2, .c (.s (.k .i64 l2))), (3, .c (.s (.k .i64 l3))), (11, .c (.wh 2)), (12, .c (.s (.k .i64 i12_1))), (35, .c (.s (.b (decide (((l11_1.length : Nat) : Int) < l3)))))], [], [⟨(.ro false), 5, 1, l0.length, .b l0⟩, ⟨(.ro false), 5, 1, l1.length, .b l1⟩, ⟨.row, 5, 1, l11_1.length, .b l11_1⟩]⟩) (by kernel_rfl) allP_nil ?_
              refine W_cond (b := (decide (((l11_1.length : Nat) : Int) < l3))) (by kernel_rfl) (fun g27 => ?_) (fun g27 => ?_)
              · replace h := bif_t h g27
                refine W_co [] [0, 1, 2, 3, 11, 12] [0, 1, 2] (s' := ⟨[(0, .c (.wh 0)), (1, .c (.wh 1)), (2, .c (.s (.k .i64 l2))), (3, .c (.s (.k .i64 l3))), (11, .c (.wh 2)), (12, .c (.s (.k .i64 i12_1)))], [], [⟨(.ro false), 5, 1, l0.length, .b l0⟩, ⟨(.ro false), 5, 1, l1.length, .b l1⟩, ⟨.row, 5, 1, l11_1.length, .b l11_1⟩]⟩) (by kernel_rfl) (W_skip ?_)
                refine W_seq ?_
                refine W_block ?_
                refine W_seq ?_
                obtain ⟨g4, h⟩ := gd_some h
                obtain ⟨g5, h⟩ := gd_some h
                obtain ⟨g6, h⟩ := gd_some h
                obtain ⟨g7, h⟩ := gd_some h
                obtain ⟨r48_2, g8, h⟩ := bind_some' h
                refine W_reg hT (ftL_cons (k := 9) (f := 20) (F := cat_ct) cat_h (fun _ _ => True.intro) (ftL_cons (k := 10) (f := 11) (F := (mMark_ct n r48_2)) (mMark_ok n r48_2) hI ftL_nil)) [] [] [0, 1, 2, 3, 11, 12, 13] [0, 1, 2, 6] (s' := ⟨[(0, .c (.wh 0)), (1, .c (.wh 1)), (2, .c (.s (.k .i64 l2))), (3, .c (.s (.k .i64 l3))), (11, .c (.wh 2)), (12, .c (.s (.k .i64 i12_1))), (13, .c (.wh 3))], [], [⟨(.ro false), 5, 1, l0.length, .b l0⟩, ⟨(.ro false), 5, 1, l1.length, .b l1⟩, ⟨.row, 5, 1, l11_1.length, .b l11_1⟩, ⟨.row, 5, 1, r48_2.length, .b r48_2⟩]⟩) (by kernel_rfl) (allP_cons.2 ⟨g4, (allP_cons.2 ⟨g5, (allP_cons.2 ⟨g6, (allP_cons.2 ⟨g7, (allP_cons.2 ⟨g8, allP_nil⟩)⟩)⟩)⟩)⟩) ?_
                refine W_seq ?_
                obtain ⟨g9, h⟩ := gd_some h
                refine W_reg hT (ftL_cons (k := 1) (f := 26) (F := cloneb_ct) cloneb_h (fun _ _ => True.intro) ftL_nil) [] [] [0, 1, 2, 3, 11, 12, 13, 14] [0, 1, 2, 3, 4] (s' := ⟨[(0, .c (.wh 0)), (1, .c (.wh 1)), (2, .c (.s (.k .i64 l2))), (3, .c (.s (.k .i64 l3))), (11, .c (.wh 2)), (12, .c (.s (.k .i64 i12_1))), (13, .c (.wh 3)), (14, .c (.wh 4))], [], [⟨(.ro false), 5, 1, l0.length, .b l0⟩, ⟨(.ro false), 5, 1, l1.length, .b l1⟩, ⟨.row, 5, 1, l11_1.length, .b l11_1⟩, ⟨.row, 5, 1, r48_2.length, .b r48_2⟩, ⟨.row, 5, 1, (r48_2).length, .b (r48_2)⟩]⟩) (by kernel_rfl) (allP_cons.2 ⟨g9, allP_nil⟩) ?_
                refine W_seq ?_
                refine W_seq ?_
                obtain ⟨g10, h⟩ := gd_some h
                refine W_reg hT ftL_nil [] [] [0, 1, 2, 3, 11, 12, 13, 14, 52, 53] [0, 1, 2, 3, 4] (s' := ⟨[(0, .c (.wh 0)), (1, .c (.wh 1)), (2, .c (.s (.k .i64 l2))), (3, .c (.s (.k .i64 l3))), (11, .c (.wh 2)), (12, .c (.s (.k .i64 i12_1))), (13, .c (.wh 3)), (14, .c (.wh 4)), (52, .c (.s (.k .i64 (l2 - 1)))), (53, .c (.s (.k .i64 0)))], [], [⟨(.ro false), 5, 1, l0.length, .b l0⟩, ⟨(.ro false), 5, 1, l1.length, .b l1⟩, ⟨.row, 5, 1, l11_1.length, .b l11_1⟩, ⟨.row, 5, 1, r48_2.length, .b r48_2⟩, ⟨.row, 5, 1, (r48_2).length, .b (r48_2)⟩]⟩) (by kernel_rfl) (allP_cons.2 ⟨g10, allP_nil⟩) ?_
                refine W_block ?_
                refine W_co [] [0, 1, 2, 3, 11, 12, 13, 14, 52, 53] [0, 1, 2, 3, 4] (s' := (mDerive_l2_E l0 l1 l2 l3 l11_1 i12_1 r48_2 r48_2 (r48_2) 0)) (by kernel_rfl) (W_lp ((mDerive_l2_P n l0 l1 l2 l3 l11_1 i12_1 r48_2 (mDerive_l1 n l0 l1 l2 l3 fu_l1) r)) n (mDerive_l2_M h) ?_)
                rintro fu_l2 _ ⟨l13_5, l14_21, i53_5, rfl, h⟩
                cases fu_l2 with
                | zero => cases h
                | succ fu_l2 =>
                  refine ⟨fu_l2, rfl, ?_⟩
                  rw [mDerive_l2] at h
                  refine W_seq ?_
                  refine W_reg hT ftL_nil [] [] [0, 1, 2, 3, 11, 12, 13, 14, 52, 53, 54] [0, 1, 2, 3, 4] (s' := ⟨[(0, .c (.wh 0)), (1, .c (.wh 1)), (2, .c (.s (.k .i64 l2))), (3, .c (.s (.k .i64 l3))), (11, .c (.wh 2)), (12, .c (.s (.k .i64 i12_1))), (13, .c (.wh 3)), (14, .c (.wh 4)), (52, .c (.s (.k .i64 (l2 - 1)))), (53, .c (.s (.k .i64 i53_5))), (54, .c (.s (.b (decide (i53_5 < (l2 - 1))))))], [], [⟨(.ro false), 5, 1, l0.length, .b l0⟩, ⟨(.ro false), 5, 1, l1.length, .b l1⟩, ⟨.row, 5, 1, l11_1.length, .b l11_1⟩, ⟨.row, 5, 1, l13_5.length, .b l13_5⟩, ⟨.row, 5, 1, (r48_2).length, .b l14_21⟩]⟩) (by kernel_rfl) allP_nil ?_
                  refine W_seq ?_
                  refine W_cond (b := (decide (i53_5 < (l2 - 1)))) (by kernel_rfl) (fun g23 => ?_) (fun g23 => ?_)
                  · replace h := bif_t h g23
                    refine W_co [] [0, 1, 2, 3, 11, 12, 13, 14, 52, 53] [0, 1, 2, 3, 4] (s' := ⟨[(0, .c (.wh 0)), (1, .c (.wh 1)), (2, .c (.s (.k .i64 l2))), (3, .c (.s (.k .i64 l3))), (11, .c (.wh 2)), (12, .c (.s (.k .i64 i12_1))), (13, .c (.wh 3)), (14, .c (.wh 4)), (52, .c (.s (.k .i64 (l2 - 1)))), (53, .c (.s (.k .i64 i53_5)))], [], [⟨(.ro false), 5, 1, l0.length, .b l0⟩, ⟨(.ro false), 5, 1, l1.length, .b l1⟩, ⟨.row, 5, 1, l11_1.length, .b l11_1⟩, ⟨.row, 5, 1, l13_5.length, .b l13_5⟩, ⟨.row, 5, 1, (r48_2).length, .b l14_21⟩]⟩) (by kernel_rfl) (W_skip ?_)
                    refine W_seq ?_
                    refine W_block ?_
                    refine W_seq ?_
                    obtain ⟨r57_8, g11, h⟩ := bind_some' h
                    refine W_reg hT (ftL_cons (k := 2) (f := 11) (F := (mMark_ct n r57_8)) (mMark_ok n r57_8) hI ftL_nil) [] [] [0, 1, 2, 3, 11, 12, 13, 14, 52, 53] [0, 1, 2, 5, 4] (s' := ⟨[(0, .c (.wh 0)), (1, .c (.wh 1)), (2, .c (.s (.k .i64 l2))), (3, .c (.s (.k .i64 l3))), (11, .c (.wh 2)), (12, .c (.s (.k .i64 i12_1))), (13, .c (.wh 3)), (14, .c (.wh 4)), (52, .c (.s (.k .i64 (l2 - 1)))), (53, .c (.s (.k .i64 i53_5)))], [], [⟨(.ro false), 5, 1, l0.length, .b l0⟩, ⟨(.ro false), 5, 1, l1.length, .b l1⟩, ⟨.row, 5, 1, l11_1.length, .b l11_1⟩, ⟨.row, 5, 1, r57_8.length, .b r57_8⟩, ⟨.row, 5, 1, (r48_2).length, .b l14_21⟩]⟩) (by kernel_rfl) (allP_cons.2 ⟨g11, allP_nil⟩) ?_
                    refine W_seq ?_
                    refine W_reg hT ftL_nil [] [] [0, 1, 2, 3, 11, 12, 13, 14, 52, 53, 59, 60] [0, 1, 2, 3, 4] (s' := ⟨[(0, .c (.wh 0)), (1, .c (.wh 1)), (2, .c (.s (.k .i64 l2))), (3, .c (.s (.k .i64 l3))), (11, .c (.wh 2)), (12, .c (.s (.k .i64 i12_1))), (13, .c (.wh 3)), (14, .c (.wh 4)), (52, .c (.s (.k .i64 (l2 - 1)))), (53, .c (.s (.k .i64 i53_5))), (59, .c (.s (.k .i64 (((r48_2).length : Nat) : Int)))), (60, .c (.s (.k .i64 0)))], [], [⟨(.ro false), 5, 1, l0.length, .b l0⟩, ⟨(.ro false), 5, 1, l1.length, .b l1⟩, ⟨.row, 5, 1, l11_1.length, .b l11_1⟩, ⟨.row, 5, 1, r57_8.length, .b r57_8⟩, ⟨.row, 5, 1, (r48_2).length, .b l14_21⟩]⟩) (by kernel_rfl) allP_nil ?_
                    refine W_block ?_
                    refine W_co [] [0, 1, 2, 3, 11, 12, 13, 14, 52, 53, 59, 60] [0, 1, 2, 3, 4] (s' := (mDerive_l3_E l0 l1 l2 l3 l11_1 i12_1 r48_2 i53_5 r57_8 l14_21 0)) (by kernel_rfl) (W_lp ((mDerive_l3_P n l0 l1 l2 l3 l11_1 i12_1 r48_2 i53_5 r57_8 (mDerive_l2 n l0 l1 l2 l3 l11_1 i12_1 r48_2 (mDerive_l1 n l0 l1 l2 l3 fu_l1) fu_l2) r)) n (mDerive_l3_M h) ?_)
                    rintro fu_l3 _ ⟨l14_23, i60_17, rfl, h⟩
                    cases fu_l3 with
                    | zero => cases h
                    | succ fu_l3 =>
                      refine ⟨fu_l3, rfl, ?_⟩
                      rw [mDerive_l3] at h
                      refine W_seq ?_
                      refine W_reg hT ftL_nil [] [] [0, 1, 2, 3, 11, 12, 13, 14, 52, 53, 59, 60, 61] [0, 1, 2, 3, 4] (s' := ⟨[(0, .c (.wh 0)), (1, .c (.wh 1)), (2, .c (.s (.k .i64 l2))), (3, .c (.s (.k .i64 l3))), (11, .c (.wh 2)), (12, .c (.s (.k .i64 i12_1))), (13, .c (.wh 3)), (14, .c (.wh 4)), (52, .c (.s (.k .i64 (l2 - 1)))), (53, .c (.s (.k .i64 i53_5))), (59, .c (.s (.k .i64 (((r48_2).length : Nat) : Int)))), (60, .c (.s (.k .i64 i60_17))), (61, .c (.s (.b (decide (i60_17 < (((r48_2).length : Nat) : Int))))))], [], [⟨(.ro false), 5, 1, l0.length, .b l0⟩, ⟨(.ro false), 5, 1, l1.length, .b l1⟩, ⟨.row, 5, 1, l11_1.length, .b l11_1⟩, ⟨.row, 5, 1, r57_8.length, .b r57_8⟩, ⟨.row, 5, 1, (r48_2).length, .b l14_23⟩]⟩) (by kernel_rfl) allP_nil ?_
                      refine W_seq ?_
                      refine W_cond (b := (decide (i60_17 < (((r48_2).length : Nat) : Int)))) (by kernel_rfl) (fun g20 => ?_) (fun g20 => ?_)
                      · replace h := bif_t h g20
                        refine W_co [] [0, 1, 2, 3, 11, 12, 13, 14, 52, 53, 59, 60] [0, 1, 2, 3, 4] (s' := ⟨[(0, .c (.wh 0)), (1, .c (.wh 1)), (2, .c (.s (.k .i64 l2))), (3, .c (.s (.k .i64 l3))), (11, .c (.wh 2)), (12, .c (.s (.k .i64 i12_1))), (13, .c (.wh 3)), (14, .c (.wh 4)), (52, .c (.s (.k .i64 (l2 - 1)))), (53, .c (.s (.k .i64 i53_5))), (59, .c (.s (.k .i64 (((r48_2).length : Nat) : Int)))), (60, .c (.s (.k .i64 i60_17)))], [], [⟨(.ro false), 5, 1, l0.length, .b l0⟩, ⟨(.ro false), 5, 1, l1.length, .b l1⟩, ⟨.row, 5, 1, l11_1.length, .b l11_1⟩, ⟨.row, 5, 1, r57_8.length, .b r57_8⟩, ⟨.row, 5, 1, (r48_2).length, .b l14_23⟩]⟩) (by kernel_rfl) (W_skip ?_)
                        refine W_seq ?_
                        refine W_block ?_
                        refine W_seq ?_
                        refine W_reg hT ftL_nil [] [] [0, 1, 2, 3, 11, 12, 13, 14, 15, 52, 53, 59, 60] [0, 1, 2, 3, 4] (s' := ⟨[(0, .c (.wh 0)), (1, .c (.wh 1)), (2, .c (.s (.k .i64 l2))), (3, .c (.s (.k .i64 l3))), (11, .c (.wh 2)), (12, .c (.s (.k .i64 i12_1))), (13, .c (.wh 3)), (14, .c (.wh 4)), (15, .c (.s (.k .i64 i60_17))), (52, .c (.s (.k .i64 (l2 - 1)))), (53, .c (.s (.k .i64 i53_5))), (59, .c (.s (.k .i64 (((r48_2).length : Nat) : Int)))), (60, .c (.s (.k .i64 i60_17)))], [], [⟨(.ro false), 5, 1, l0.length, .b l0⟩, ⟨(.ro false), 5, 1, l1.length, .b l1⟩, ⟨.row, 5, 1, l11_1.length, .b l11_1⟩, ⟨.row, 5, 1, r57_8.length, .b r57_8⟩, ⟨.row, 5, 1, (r48_2).length, .b l14_23⟩]⟩) (by kernel_rfl) allP_nil ?_
                        obtain ⟨g12, h⟩ := gd_some h
                        obtain ⟨g13, h⟩ := gd_some h
                        obtain ⟨g14, h⟩ := gd_some h
                        obtain ⟨g15, h⟩ := gd_some h
                        obtain ⟨g16, h⟩ := gd_some h
                        obtain ⟨g17, h⟩ := gd_some h
                        refine W_regD hT ftL_nil (by kernel_rfl) 8 [] [(0, false), (1, false), (2, false), (3, false), (11, false), (12, false), (13, false), (14, false), (52, false), (53, false), (59, false), (60, false), (63, false), (64, false), (66, false), (70, false)] [] [0, 1, 2, 3, 11, 12, 13, 14, 52, 53, 59, 60] [0, 1, 2, 3, 4] (s' := ⟨[(0, .c (.wh 0)), (1, .c (.wh 1)), (2, .c (.s (.k .i64 l2))), (3, .c (.s (.k .i64 l3))), (11, .c (.wh 2)), (12, .c (.s (.k .i64 i12_1))), (13, .c (.wh 3)), (14, .c (.wh 4)), (52, .c (.s (.k .i64 (l2 - 1)))), (53, .c (.s (.k .i64 i53_5))), (59, .c (.s (.k .i64 (((r48_2).length : Nat) : Int)))), (60, .c (.s (.k .i64 i60_17)))], [], [⟨(.ro false), 5, 1, l0.length, .b l0⟩, ⟨(.ro false), 5, 1, l1.length, .b l1⟩, ⟨.row, 5, 1, l11_1.length, .b l11_1⟩, ⟨.row, 5, 1, r57_8.length, .b r57_8⟩, ⟨.row, 5, 1, (r48_2).length, .b (l14_23.set i60_17.toNat ((l14_23.getD i60_17.toNat 0) ^^^ (r57_8.getD i60_17.toNat 0)))⟩]⟩) (by kernel_rfl) (by kernel_rfl) (allP_cons.2 ⟨g12, (allP_cons.2 ⟨g13, (allP_cons.2 ⟨g14, (allP_cons.2 ⟨g15, (allP_cons.2 ⟨g16, (allP_cons.2 ⟨g17, allP_nil⟩)⟩)⟩)⟩)⟩)⟩) ?_
                        obtain ⟨g18, h⟩ := gd_some h
                        refine W_reg hT ftL_nil [] [] [0, 1, 2, 3, 11, 12, 13, 14, 52, 53, 59, 60] [0, 1, 2, 3, 4] (s' := (mDerive_l3_E l0 l1 l2 l3 l11_1 i12_1 r48_2 i53_5 r57_8 (l14_23.set i60_17.toNat ((l14_23.getD i60_17.toNat 0) ^^^ (r57_8.getD i60_17.toNat 0))) (i60_17 + 1))) (by kernel_rfl) (allP_cons.2 ⟨g18, allP_nil⟩) ?_
                        exact mDerive_l3_M h
                      · replace h := bif_f h g20
                        refine W_co [] [0, 1, 2, 3, 11, 12, 13, 14, 52, 53] [0, 1, 2, 3, 4] (s' := ⟨[(0, .c (.wh 0)), (1, .c (.wh 1)), (2, .c (.s (.k .i64 l2))), (3, .c (.s (.k .i64 l3))), (11, .c (.wh 2)), (12, .c (.s (.k .i64 i12_1))), (13, .c (.wh 3)), (14, .c (.wh 4)), (52, .c (.s (.k .i64 (l2 - 1)))), (53, .c (.s (.k .i64 i53_5)))], [], [⟨(.ro false), 5, 1, l0.length, .b l0⟩, ⟨(.ro false), 5, 1, l1.length, .b l1⟩, ⟨.row, 5, 1, l11_1.length, .b l11_1⟩, ⟨.row, 5, 1, r57_8.length, .b r57_8⟩, ⟨.row, 5, 1, (r48_2).length, .b l14_23⟩]⟩) (by kernel_rfl) (W_exit ?_)
                        obtain ⟨g19, h⟩ := gd_some h
                        refine W_reg hT ftL_nil [] [] [0, 1, 2, 3, 11, 12, 13, 14, 52, 53] [0, 1, 2, 3, 4] (s' := (mDerive_l2_E l0 l1 l2 l3 l11_1 i12_1 r48_2 r57_8 l14_23 (i53_5 + 1))) (by kernel_rfl) (allP_cons.2 ⟨g19, allP_nil⟩) ?_
                        exact mDerive_l2_M h
                  · replace h := bif_f h g23
                    refine W_co [] [0, 1, 2, 3, 11, 12, 14] [0, 1, 2, 4] (s' := ⟨[(0, .c (.wh 0)), (1, .c (.wh 1)), (2, .c (.s (.k .i64 l2))), (3, .c (.s (.k .i64 l3))), (11, .c (.wh 2)), (12, .c (.s (.k .i64 i12_1))), (14, .c (.wh 3))], [], [⟨(.ro false), 5, 1, l0.length, .b l0⟩, ⟨(.ro false), 5, 1, l1.length, .b l1⟩, ⟨.row, 5, 1, l11_1.length, .b l11_1⟩, ⟨.row, 5, 1, (r48_2).length, .b l14_21⟩]⟩) (by kernel_rfl) (W_exit ?_)
                    obtain ⟨g21, h⟩ := gd_some h
                    refine W_reg hT ftL_nil [] [] [0, 1, 2, 3, 11, 12] [0, 1, 4] (s' := ⟨[(0, .c (.wh 0)), (1, .c (.wh 1)), (2, .c (.s (.k .i64 l2))), (3, .c (.s (.k .i64 l3))), (11, .c (.wh 2)), (12, .c (.s (.k .i64 i12_1)))], [], [⟨(.ro false), 5, 1, l0.length, .b l0⟩, ⟨(.ro false), 5, 1, l1.length, .b l1⟩, ⟨.row, 5, 1, (l11_1 ++ l14_21).length, .b (l11_1 ++ l14_21)⟩]⟩) (by kernel_rfl) (allP_cons.2 ⟨g21, allP_nil⟩) ?_
                    obtain ⟨g22, h⟩ := gd_some h
                    refine W_reg hT ftL_nil [] [] [0, 1, 2, 3, 11, 12] [0, 1, 2] (s' := (mDerive_l1_E l0 l1 l2 l3 (l11_1 ++ l14_21) (i12_1 + 1))) (by kernel_rfl) (allP_cons.2 ⟨g22, allP_nil⟩) ?_
                    exact mDerive_l1_M h
              · replace h := bif_f h g27
                refine W_co [] [3, 11] [2] (s' := ⟨[(3, .c (.s (.k .i64 l3))), (11, .c (.wh 0))], [], [⟨.row, 5, 1, l11_1.length, .b l11_1⟩]⟩) (by kernel_rfl) (W_exit ?_)
                refine W_seq ?_
                obtain ⟨g24, h⟩ := gd_some h
                obtain ⟨g25, h⟩ := gd_some h
                obtain ⟨g26, h⟩ := gd_some h
                refine W_reg hT ftL_nil [] [] [8, 9] [0] (s' := ⟨[(8, .c (.sl 0 0 l3.toNat)), (9, .c (.s (.v .nilIface)))], [], [⟨.row, 5, 1, l11_1.length, .b l11_1⟩]⟩) (by kernel_rfl) (allP_cons.2 ⟨g24, (allP_cons.2 ⟨g25, (allP_cons.2 ⟨g26, allP_nil⟩)⟩)⟩) ?_
                refine W_co [.vw 8 true, .er 9 38 .i64] [8, 9] [1] (s' := (mDerive_R (((l11_1.drop 0).take l3.toNat), l3.toNat, none))) (by kernel_rfl) (W_ret ?_)
                exact ⟨.inl rfl, by cases h; rfl⟩
  · rintro e s' ⟨he, rfl⟩
    refine ⟨he, fun a' w' hr => ?_⟩
    exact retS_ok tabO_ma hr (rs := [.tmp 8, .tmp 9]) rfl (objs := [0]) (by kernel_rfl)
def mup_R (r : Bool) : S := ⟨[(0, .c (.s (.b r)))], [], []⟩
def mup_ct (n : Nat) (r : Bool) : Ct := fun args H => match args with
  | [] => some ([mup n = some r], shA H.length (.c (.s (.b r))), shH H.length [])
  | _ => none
theorem mup_ok (n : Nat) (r : Bool) : FnOk Tryd.prog GK 9 (mup_ct n r) := by
  refine ⟨fun args H g av objs hF hg ρ w vals hG hp ha => ?_, _, Tryd.func9, by kernel_rfl, by kernel_rfl⟩
  obtain rfl : args = [] := by
    unfold mup_ct at hF; split at hF
    · exact rfl
    · cases hF
  simp only [mup_ct, Option.some.injEq, Prod.mk.injEq] at hF
  obtain ⟨rfl, rfl, rfl⟩ := hF
  obtain rfl := F2.inv0 ha
  have hI : ∀ w', Kp (noB (fun _ => undef)) w w' → GK w' := fun _ hk => GK.keep hk.below hG
  have h : mup n = some r := hg
  have hR0 := rel0 (gv := (fun _ => undef)) (n := 31) (w := w) (args := []) (H := []) (gl := []) (hpL (ps := []) F2.nil) (allRo_ok rfl) F2.nil GlR.nil (by simp)
  clear ha hp hg 
  refine calls_W Tryd.func9 rfl rfl hR0 (Q := fun e s => (e = .ret ∨ e = .normal) ∧ s = mup_R r) ?_ ?_
  · clear hR0
    unfold mup at h
    have hT := tabO_ma
    refine W_seq ?_
    refine W_reg hT ftL_nil [] [] [] [] (s' := ⟨[], [], []⟩) (by kernel_rfl) allP_nil ?_
    refine W_seq ?_
    refine W_reg hT ftL_nil [] [] [1] [] (s' := ⟨[(1, .c (.s (.str ([91, 220, 193, 70, 191, 96, 117, 78, 106, 4, 36, 38, 8, 149, 117, 199, 90, 0, 63, 8, 157, 39, 57, 131, 157, 236, 88, 185, 100, 236, 56, 67] : List UInt8))))], [], []⟩) (by kernel_rfl) allP_nil ?_
    refine W_seq ?_
    refine W_reg hT ftL_nil [] [] [1, 2] [] (s' := ⟨[(1, .c (.s (.str ([91, 220, 193, 70, 191, 96, 117, 78, 106, 4, 36, 38, 8, 149, 117, 199, 90, 0, 63, 8, 157, 39, 57, 131, 157, 236, 88, 185, 100, 236, 56, 67] : List UInt8)))), (2, .c (.s (.str ([85, 172, 4, 110, 86, 227, 8, 159, 236, 22, 145, 194, 37, 68, 182, 5] : List UInt8))))], [], []⟩) (by kernel_rfl) allP_nil ?_
    refine W_seq ?_
    obtain ⟨r10, g1, h⟩ := bind_some' h
    refine W_reg hT (ftL_cons (k := 4) (f := 14) (F := (mDerive_ct n r10)) (mDerive_ok n r10) hI ftL_nil) [] [] [1, 2, 3, 4] [2] (s' := ⟨[(1, .c (.s (.str ([91, 220, 193, 70, 191, 96, 117, 78, 106, 4, 36, 38, 8, 149, 117, 199, 90, 0, 63, 8, 157, 39, 57, 131, 157, 236, 88, 185, 100, 236, 56, 67] : List UInt8)))), (2, .c (.s (.str ([85, 172, 4, 110, 86, 227, 8, 159, 236, 22, 145, 194, 37, 68, 182, 5] : List UInt8)))), (3, .c (.wh 0)), (4, .c (.s (.er 38 .i64 r10.2.2)))], [], [⟨(.ro true), 5, 1, r10.2.1, .b r10.1⟩]⟩) (by kernel_rfl) (allP_cons.2 ⟨g1, allP_nil⟩) ?_
    refine W_seq ?_
    obtain ⟨r17, g2, h⟩ := bind_some' h
    rcases Bool.eq_false_or_eq_true (r17 == ([91, 220, 193, 70, 191, 96, 117, 78, 106, 4, 36, 38, 8, 149, 117, 199, 90, 0, 63, 8, 157, 39, 57, 131, 157, 236, 88, 185, 100, 236, 56, 67] : List UInt8)) with g3 | g3
    · replace h := bif_t h g3
      rcases Bool.eq_false_or_eq_true ((r10.2.2).isNone) with g4 | g4
      · replace h := bif_t h g4
        refine W_reg hT (ftL_cons (k := 4) (f := 11) (F := (mMark_ct n r17)) (mMark_ok n r17) hI ftL_nil) [(8, true), (12, true)] [] [0] [] (s' := ⟨[(0, .c (.s (.b (r10.1 == ([85, 172, 4, 110, 86, 227, 8, 159, 236, 22, 145, 194, 37, 68, 182, 5] : List UInt8)))))], [], []⟩) (by kernel_rfl) (allP_cons.2 ⟨g2, (allP_cons.2 ⟨g3, (allP_cons.2 ⟨g4, allP_nil⟩)⟩)⟩) ?_
        refine W_co [] [0] [] (s' := (mup_R (r10.1 == ([85, 172, 4, 110, 86, 227, 8, 159, 236, 22, 145, 194, 37, 68, 182, 5] : List UInt8)))) (by kernel_rfl) (W_ret ?_)
        exact ⟨.inl rfl, by cases h; rfl⟩
      · replace h := bif_f h g4
        refine W_reg hT (ftL_cons (k := 4) (f := 11) (F := (mMark_ct n r17)) (mMark_ok n r17) hI ftL_nil) [(8, true), (12, false)] [] [0] [] (s' := ⟨[(0, .c (.s (.b false)))], [], []⟩) (by kernel_rfl) (allP_cons.2 ⟨g2, (allP_cons.2 ⟨g3, (allP_cons.2 ⟨g4, allP_nil⟩)⟩)⟩) ?_
        refine W_co [] [0] [] (s' := (mup_R false)) (by kernel_rfl) (W_ret ?_)
        exact ⟨.inl rfl, by cases h; rfl⟩
    · replace h := bif_f h g3
      refine W_reg hT (ftL_cons (k := 4) (f := 11) (F := (mMark_ct n r17)) (mMark_ok n r17) hI ftL_nil) [(8, false)] [] [0] [] (s' := ⟨[(0, .c (.s (.b false)))], [], []⟩) (by kernel_rfl) (allP_cons.2 ⟨g2, (allP_cons.2 ⟨g3, allP_nil⟩)⟩) ?_
      refine W_co [] [0] [] (s' := (mup_R false)) (by kernel_rfl) (W_ret ?_)
      exact ⟨.inl rfl, by cases h; rfl⟩
  · rintro e s' ⟨he, rfl⟩
    refine ⟨he, fun a' w' hr => ?_⟩
    exact retS_ok tabO_ma hr (rs := [.tmp 0]) rfl (objs := []) (by kernel_rfl)
end Go.Proofs.YtamddohbpdbdmaaDoor
