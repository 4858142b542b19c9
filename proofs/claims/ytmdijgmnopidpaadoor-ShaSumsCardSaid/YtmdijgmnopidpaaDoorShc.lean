import Derived.Test.YtmdijgmnopidpaaDoorSxT
import Derived.Test.YtmdijgmnopidpaaDoorProg
import Derived.Test.YtmdijgmnopidpaaDoorShb
set_option linter.unusedVariables false
set_option linter.unusedSimpArgs false
namespace Go.Proofs.YtmdijgmnopidpaaDoor
open Go.RowKit Go.Ch Go.Sx

def tabL_shc : List (TypeId × Ti) := [(3, ⟨.int .i64, 1, 8, true, some [.int .i64]⟩),
  (5, ⟨.int .u8, 1, 1, true, some [.int .u8]⟩),
  (9, ⟨.str, 1, 16, true, some [.str]⟩),
  (22, ⟨.arr 64 5, 64, 64, true, some [.int .u8, .int .u8, .int .u8, .int .u8, .int .u8, .int .u8, .int .u8, .int .u8, .int .u8, .int .u8, .int .u8, .int .u8, .int .u8, .int .u8, .int .u8, .int .u8, .int .u8, .int .u8, .int .u8, .int .u8, .int .u8, .int .u8, .int .u8, .int .u8, .int .u8, .int .u8, .int .u8, .int .u8, .int .u8, .int .u8, .int .u8, .int .u8, .int .u8, .int .u8, .int .u8, .int .u8, .int .u8, .int .u8, .int .u8, .int .u8, .int .u8, .int .u8, .int .u8, .int .u8, .int .u8, .int .u8, .int .u8, .int .u8, .int .u8, .int .u8, .int .u8, .int .u8, .int .u8, .int .u8, .int .u8, .int .u8, .int .u8, .int .u8, .int .u8, .int .u8, .int .u8, .int .u8, .int .u8, .int .u8]⟩),
  (24, ⟨.int .u32, 1, 4, true, some [.int .u32]⟩),
  (28, ⟨.arr 8 24, 8, 32, true, some [.int .u32, .int .u32, .int .u32, .int .u32, .int .u32, .int .u32, .int .u32, .int .u32]⟩),
  (33, ⟨.sl 24, 1, 24, false, some [.nils]⟩),
  (36, ⟨.sl 5, 1, 24, false, some [.nils]⟩),
  (47, ⟨.st [(33, 0), (28, 1)], 9, 56, false, some [.nils, .int .u32, .int .u32, .int .u32, .int .u32, .int .u32, .int .u32, .int .u32, .int .u32]⟩),
  (56, ⟨.sl 59, 1, 24, false, some [.nils]⟩),
  (59, ⟨.int .u64, 1, 8, true, some [.int .u64]⟩)]
def tab_shc : Tab := fun t => (tabL_shc).lookup t
theorem tabE_shc : (tabL_shc.map fun p => tiOf Tryd.prog p.1) = tabL_shc.map fun p => some p.2 := by kernel_rfl
theorem tabO_shc : TabOk Tryd.prog tab_shc := tab_of tabE_shc

def cut (n : Nat) (a0 : List UInt8) (a1 : Int) : Option (List UInt8 × Nat) :=
  bif (decide (a1 < ((a0.length : Nat) : Int))) then
    gd (0 ≤ a1) <|
    gd (a1 ≤ ((a0.length : Nat) : Int)) <|
    some (((a0.drop 0).take a1.toNat), a1.toNat)
  else
    some (a0, a0.length)
def refbegin_l1 (n : Nat) : Nat → List UInt32 → Int → Option (List UInt32)
  | 0, _, _ => none
  | fu_l1 + 1, w2_1, i3_1 =>
    bif (decide (i3_1 < (8 : Int))) then
      gd (0 ≤ i3_1) <|
      gd (i3_1 < (((prN 18).length : Nat) : Int)) <|
      gd (0 ≤ i3_1) <|
      gd (i3_1 < (8 : Int)) <|
      gd (okI .i64 (i3_1 + 1)) <|
      (refbegin_l1 n fu_l1) (w2_1.set i3_1.toNat (fracF false ((prN 18).getD i3_1.toNat 0))) (i3_1 + 1)
    else
      some w2_1
def refbegin (n : Nat) : Option (List UInt32) :=
  gd ((8 : Int) = 8) <|
  refbegin_l1 n n (List.replicate 8 0) 0
def made (n : Nat) : Option (UInt32 × UInt32 × UInt32 × UInt32 × UInt32 × UInt32 × UInt32 × UInt32) :=
  (refbegin n).bind fun r2_1 =>
  some ((r2_1.getD 0 0), (r2_1.getD 1 0), (r2_1.getD 2 0), (r2_1.getD 3 0), (r2_1.getD 4 0), (r2_1.getD 5 0), (r2_1.getD 6 0), (r2_1.getD 7 0))
def refsum_l2 (n : Nat) (a0_0 : List UInt32) (a0_1_0 : UInt32) (a0_1_1 : UInt32) (a0_1_2 : UInt32) (a0_1_3 : UInt32) (a0_1_4 : UInt32) (a0_1_5 : UInt32) (a0_1_6 : UInt32) (a0_1_7 : UInt32) (a1 : List UInt8) (w6_1 : List UInt32) (i7_1 : Int) (k_l1 : (List UInt32) → Int → Option (List UInt8)) : Nat → List UInt8 → Int → Option (List UInt8)
  | 0, _, _ => none
  | fu_l2 + 1, l8_5, i9_5 =>
    bif (decide (i9_5 < (64 : Int))) then
      gd (okI .i64 (i7_1 + i9_5)) <|
      gd (0 ≤ (i7_1 + i9_5)) <|
      gd ((i7_1 + i9_5) < (((([] ++ a1) ++ (tailOf (((a1.length : Nat) : Int)).toNat)).length : Nat) : Int)) <|
      gd (0 ≤ i9_5) <|
      gd (i9_5 < (64 : Int)) <|
      gd (okI .i64 (i9_5 + 1)) <|
      (refsum_l2 n a0_0 a0_1_0 a0_1_1 a0_1_2 a0_1_3 a0_1_4 a0_1_5 a0_1_6 a0_1_7 a1 w6_1 i7_1 k_l1 fu_l2) (l8_5.set i9_5.toNat ((([] ++ a1) ++ (tailOf (((a1.length : Nat) : Int)).toNat)).getD ((i7_1 + i9_5).toNat) 0)) (i9_5 + 1)
    else
      gd ((a0_0).length = 64) <|
      gd (okI .i64 (i7_1 + 64)) <|
      k_l1 (pressL a0_0 w6_1 l8_5) (i7_1 + 64)
def refsum_l3 (n : Nat) (w6_1 : List UInt32) : Nat → List UInt8 → Int → Option (List UInt8)
  | 0, _, _ => none
  | fu_l3 + 1, l10_1, i11_1 =>
    bif (decide (i11_1 < (8 : Int))) then
      gd (0 ≤ i11_1) <|
      gd (i11_1 < (8 : Int)) <|
      gd ((16777216 : UInt32) ≠ 0) <|
      gd (0 ≤ i11_1) <|
      gd (i11_1 < (8 : Int)) <|
      gd ((65536 : UInt32) ≠ 0) <|
      gd (0 ≤ i11_1) <|
      gd (i11_1 < (8 : Int)) <|
      gd ((256 : UInt32) ≠ 0) <|
      gd (0 ≤ i11_1) <|
      gd (i11_1 < (8 : Int)) <|
      gd (rmB (l10_1.length + 4) 1) <|
      gd (okI .i64 (i11_1 + 1)) <|
      (refsum_l3 n w6_1 fu_l3) (l10_1 ++ [((w6_1.getD i11_1.toNat 0) / (16777216 : UInt32)).toUInt8, ((w6_1.getD i11_1.toNat 0) / (65536 : UInt32)).toUInt8, ((w6_1.getD i11_1.toNat 0) / (256 : UInt32)).toUInt8, (w6_1.getD i11_1.toNat 0).toUInt8]) (i11_1 + 1)
    else
      some l10_1
def refsum_l1 (n : Nat) (a0_0 : List UInt32) (a0_1_0 : UInt32) (a0_1_1 : UInt32) (a0_1_2 : UInt32) (a0_1_3 : UInt32) (a0_1_4 : UInt32) (a0_1_5 : UInt32) (a0_1_6 : UInt32) (a0_1_7 : UInt32) (a1 : List UInt8) : Nat → List UInt32 → Int → Option (List UInt8)
  | 0, _, _ => none
  | fu_l1 + 1, w6_1, i7_1 =>
    bif (decide (i7_1 < (((([] ++ a1) ++ (tailOf (((a1.length : Nat) : Int)).toNat)).length : Nat) : Int))) then
      refsum_l2 n a0_0 a0_1_0 a0_1_1 a0_1_2 a0_1_3 a0_1_4 a0_1_5 a0_1_6 a0_1_7 a1 w6_1 i7_1 (refsum_l1 n a0_0 a0_1_0 a0_1_1 a0_1_2 a0_1_3 a0_1_4 a0_1_5 a0_1_6 a0_1_7 a1 fu_l1) n (List.replicate 64 0) 0
    else
      refsum_l3 n w6_1 n [] 0
def refsum (n : Nat) (a0_0 : List UInt32) (a0_1_0 : UInt32) (a0_1_1 : UInt32) (a0_1_2 : UInt32) (a0_1_3 : UInt32) (a0_1_4 : UInt32) (a0_1_5 : UInt32) (a0_1_6 : UInt32) (a0_1_7 : UInt32) (a1 : List UInt8) : Option (List UInt8) :=
  gd (rmB (0 + a1.length) 1) <|
  gd ((0 : Int) ≤ ((a1.length : Nat) : Int)) <|
  gd ((((a1.length : Nat) : Int) : Int) ≤ 281474976710656) <|
  gd (rmB ((([] ++ a1).length) + ((tailOf (((a1.length : Nat) : Int)).toNat).length)) 1) <|
  gd (1 + 8 ≤ 9) <|
  refsum_l1 n a0_0 a0_1_0 a0_1_1 a0_1_2 a0_1_3 a0_1_4 a0_1_5 a0_1_6 a0_1_7 a1 n [a0_1_0, a0_1_1, a0_1_2, a0_1_3, a0_1_4, a0_1_5, a0_1_6, a0_1_7] 0
def shasums (n : Nat) (a0 : List UInt8) : Option (Bool) :=
  (cut n a0 2000).bind fun r6_1 =>
  gd ((r6_1.1).length ≤ 100000) <|
  (made n).bind fun r12_1 =>
  (refsum n (consts) r12_1.1 r12_1.2.1 r12_1.2.2.1 r12_1.2.2.2.1 r12_1.2.2.2.2.1 r12_1.2.2.2.2.2.1 r12_1.2.2.2.2.2.2.1 r12_1.2.2.2.2.2.2.2 r6_1.1).bind fun r14_1 =>
  some ((digest consts begin8 r6_1.1) == r14_1)

def cut_R (r : List UInt8 × Nat) : S := ⟨[(4, .c (.wh 0))], [], [⟨(.ro false), 5, 1, r.2, .b r.1⟩]⟩
def cut_ct (n : Nat) (r : List UInt8 × Nat) : Ct := fun args H => match args with
  | [x0, x1] => (match aB H x0 with | some l0 => (match aI x1 with | some l1 => some ([cut n l0 l1 = some r], shA H.length (.c (.wh 0)), shH H.length [⟨(.ro false), 5, 1, r.2, .b r.1⟩]) | none => none) | none => none)
  | _ => none
theorem cut_ok (n : Nat) (r : List UInt8 × Nat) : FnOk Tryd.prog Tr 21 (cut_ct n r) := by
  refine ⟨fun args H g av objs hF hg ρ w vals hG hp ha => ?_, _, Tryd.func21, by kernel_rfl, by kernel_rfl⟩
  have hI : ∀ w', Kp (fun _ => False) w w' → Tr w' := fun _ hk => Tr.keep hk.below hG
  obtain ⟨x0, x1, rfl⟩ : ∃ x0 x1, args = [x0, x1] := by
    unfold cut_ct at hF; split at hF
    · exact ⟨_, _, rfl⟩
    · cases hF
  cases e0 : aB H x0 with
  | none => simp only [cut_ct, e0, reduceCtorEq] at hF
  | some l0 =>
  cases e1 : aI x1 with
  | none => simp only [cut_ct, e0, e1, reduceCtorEq] at hF
  | some l1 =>
  simp only [cut_ct, e0, e1, Option.some.injEq, Prod.mk.injEq] at hF
  obtain ⟨rfl, rfl, rfl⟩ := hF
  obtain ⟨v0, vals, rfl, k0, ha⟩ := F2.inv ha
  obtain ⟨v1, vals, rfl, k1, ha⟩ := F2.inv ha
  obtain rfl := F2.inv0 ha
  have h : cut n l0 l1 = some r := hg
  obtain ⟨p0, s0, o0⟩ := aB_ok hp e0 (k0) 5
  have s1 := aI_ok e1 (k1)
  have hR0 := rel0 (n := 13) (w := w) (args := [.c (.wh 0), .c (.s (.k .i64 l1))]) (H := [⟨.ro false, 5, 1, l0.length, .b l0⟩]) (gl := []) (hpL (ps := [p0]) (F2.cons o0 F2.nil)) (allRo_ok rfl) (F2.cons s0 (F2.cons s1 F2.nil)) GlR.nil (by simp)
  clear ha hp hg k0 k1 e0 e1
  refine calls_W Tryd.func21 rfl rfl hR0 (Q := fun e s => (e = .ret ∨ e = .normal) ∧ s = cut_R r) ?_ ?_
  · clear hR0
    unfold cut at h
    have hT := tabO_shc
    refine W_seq ?_
    refine W_reg hT ftL_nil [] [] [0, 1] [0] (s' := ⟨[(0, .c (.wh 0)), (1, .c (.s (.k .i64 l1)))], [], [⟨(.ro false), 5, 1, l0.length, .b l0⟩]⟩) (by kernel_rfl) allP_nil ?_
    refine W_seq ?_
    refine W_seq ?_
    refine W_reg hT ftL_nil [] [] [0, 1, 8] [0] (s' := ⟨[(0, .c (.wh 0)), (1, .c (.s (.k .i64 l1))), (8, .c (.s (.b (decide (l1 < ((l0.length : Nat) : Int))))))], [], [⟨(.ro false), 5, 1, l0.length, .b l0⟩]⟩) (by kernel_rfl) allP_nil ?_
    refine W_cond (b := (decide (l1 < ((l0.length : Nat) : Int)))) (by kernel_rfl) (fun g3 => ?_) (fun g3 => ?_)
    · replace h := bif_t h g3
      refine W_seq ?_
      obtain ⟨g1, h⟩ := gd_some h
      obtain ⟨g2, h⟩ := gd_some h
      refine W_reg hT ftL_nil [] [] [4] [0] (s' := ⟨[(4, .c (.sl 0 0 l1.toNat))], [], [⟨(.ro false), 5, 1, l0.length, .b l0⟩]⟩) (by kernel_rfl) (allP_cons.2 ⟨g1, (allP_cons.2 ⟨g2, allP_nil⟩)⟩) ?_
      refine W_co [.vw 4 false] [4] [1] (s' := (cut_R (((l0.drop 0).take l1.toNat), l1.toNat))) (by kernel_rfl) (W_ret ?_)
      exact ⟨.inl rfl, by cases h; rfl⟩
    · replace h := bif_f h g3
      refine W_co [] [0] [0] (s' := ⟨[(0, .c (.wh 0))], [], [⟨(.ro false), 5, 1, l0.length, .b l0⟩]⟩) (by kernel_rfl) (W_skip ?_)
      refine W_seq ?_
      refine W_reg hT ftL_nil [] [] [4] [0] (s' := ⟨[(4, .c (.wh 0))], [], [⟨(.ro false), 5, 1, l0.length, .b l0⟩]⟩) (by kernel_rfl) allP_nil ?_
      refine W_co [] [4] [0] (s' := (cut_R (l0, l0.length))) (by kernel_rfl) (W_ret ?_)
      exact ⟨.inl rfl, by cases h; rfl⟩
  · rintro e s' ⟨he, rfl⟩
    refine ⟨he, fun a' w' hr => ?_⟩
    exact retS_ok tabO_shc hr (rs := [.tmp 4]) rfl (objs := [0]) (by kernel_rfl)
def refbegin_l1_E (w2_1 : List UInt32) (i3_1 : Int) : S := ⟨[(0, .c (.pt 0 0)), (1, .c (.wh 1)), (2, .c (.pt 2 0)), (3, .c (.s (.k .i64 i3_1)))], [], [⟨.blk, 28, 1, 8, .w (List.replicate 8 0)⟩, ⟨.row, 59, 1, (prN 18).length, .q (prN 18)⟩, ⟨.blk, 28, 1, 8, .w w2_1⟩]⟩
def refbegin_l1_P (n : Nat) (r : List UInt32) (fu : Nat) : S → Prop := fun s => ∃ (w2_1 : List UInt32), ∃ (i3_1 : Int), s = refbegin_l1_E w2_1 i3_1 ∧ refbegin_l1 n fu w2_1 i3_1 = some r
theorem refbegin_l1_M {n : Nat} {w2_1 : List UInt32} {i3_1 : Int} {r : List UInt32} {fu : Nat} (h : refbegin_l1 n fu w2_1 i3_1 = some r) : refbegin_l1_P n r fu (refbegin_l1_E w2_1 i3_1) := ⟨w2_1, i3_1, rfl, h⟩
def refbegin_R (r : List UInt32) : S := ⟨[(0, .c (.pt 0 0))], [], [⟨.blk, 28, 1, 8, .w r⟩]⟩
def refbegin_ct (n : Nat) (r : List UInt32) : Ct := fun args H => match args with
  | [] => some ([refbegin n = some r], shA H.length (.g 8 (.w r)), shH H.length [])
  | _ => none
theorem refbegin_ok (n : Nat) (r : List UInt32) : FnOk Tryd.prog Tr 32 (refbegin_ct n r) := by
  refine ⟨fun args H g av objs hF hg ρ w vals hG hp ha => ?_, _, Tryd.func32, by kernel_rfl, by kernel_rfl⟩
  have hI : ∀ w', Kp (fun _ => False) w w' → Tr w' := fun _ hk => Tr.keep hk.below hG
  obtain rfl : args = [] := by
    unfold refbegin_ct at hF; split at hF
    · exact rfl
    · cases hF
  simp only [refbegin_ct, Option.some.injEq, Prod.mk.injEq] at hF
  obtain ⟨rfl, rfl, rfl⟩ := hF
  obtain rfl := F2.inv0 ha
  have h : refbegin n = some r := hg
  have hR0 := rel0 (n := 17) (w := w) (args := []) (H := []) (gl := []) (hpL (ps := []) F2.nil) (allRo_ok rfl) F2.nil GlR.nil (by simp)
  clear ha hp hg 
  refine calls_W Tryd.func32 rfl rfl hR0 (Q := fun e s => (e = .ret ∨ e = .normal) ∧ s = refbegin_R r) ?_ ?_
  · clear hR0
    unfold refbegin at h
    have hT := tabO_shc
    refine W_seq ?_
    refine W_reg hT ftL_nil [] [] [0] [0] (s' := ⟨[(0, .c (.pt 0 0))], [], [⟨.blk, 28, 1, 8, .w (List.replicate 8 0)⟩]⟩) (by kernel_rfl) allP_nil ?_
    refine W_seq ?_
    obtain ⟨g1, h⟩ := gd_some h
    refine W_reg hT (ftL_cons (k := 0) (f := 29) (F := primes8_ct) primes8_h (fun _ _ => True.intro) ftL_nil) [] [] [0, 1] [0, 1] (s' := ⟨[(0, .c (.pt 0 0)), (1, .c (.wh 1))], [], [⟨.blk, 28, 1, 8, .w (List.replicate 8 0)⟩, ⟨.row, 59, 1, (prN 18).length, .q (prN 18)⟩]⟩) (by kernel_rfl) (allP_cons.2 ⟨g1, allP_nil⟩) ?_
    refine W_seq ?_
    refine W_reg hT ftL_nil [] [] [0, 1, 2] [0, 1, 2] (s' := ⟨[(0, .c (.pt 0 0)), (1, .c (.wh 1)), (2, .c (.pt 2 0))], [], [⟨.blk, 28, 1, 8, .w (List.replicate 8 0)⟩, ⟨.row, 59, 1, (prN 18).length, .q (prN 18)⟩, ⟨.blk, 28, 1, 8, .w (List.replicate 8 0)⟩]⟩) (by kernel_rfl) allP_nil ?_
    refine W_seq ?_
    refine W_seq ?_
    refine W_reg hT ftL_nil [] [] [0, 1, 2, 3] [0, 1, 2] (s' := ⟨[(0, .c (.pt 0 0)), (1, .c (.wh 1)), (2, .c (.pt 2 0)), (3, .c (.s (.k .i64 0)))], [], [⟨.blk, 28, 1, 8, .w (List.replicate 8 0)⟩, ⟨.row, 59, 1, (prN 18).length, .q (prN 18)⟩, ⟨.blk, 28, 1, 8, .w (List.replicate 8 0)⟩]⟩) (by kernel_rfl) allP_nil ?_
    refine W_block ?_
    refine W_co [] [0, 1, 2, 3] [0, 1, 2] (s' := (refbegin_l1_E (List.replicate 8 0) 0)) (by kernel_rfl) (W_lp ((refbegin_l1_P n r)) n (refbegin_l1_M h) ?_)
    rintro fu_l1 _ ⟨w2_1, i3_1, rfl, h⟩
    cases fu_l1 with
    | zero => cases h
    | succ fu_l1 =>
      refine ⟨fu_l1, rfl, ?_⟩
      rw [refbegin_l1] at h
      refine W_seq ?_
      refine W_seq ?_
      refine W_reg hT ftL_nil [] [] [0, 1, 2, 3, 6] [0, 1, 2] (s' := ⟨[(0, .c (.pt 0 0)), (1, .c (.wh 1)), (2, .c (.pt 2 0)), (3, .c (.s (.k .i64 i3_1))), (6, .c (.s (.b (decide (i3_1 < (8 : Int))))))], [], [⟨.blk, 28, 1, 8, .w (List.replicate 8 0)⟩, ⟨.row, 59, 1, (prN 18).length, .q (prN 18)⟩, ⟨.blk, 28, 1, 8, .w w2_1⟩]⟩) (by kernel_rfl) allP_nil ?_
      refine W_cond (b := (decide (i3_1 < (8 : Int)))) (by kernel_rfl) (fun g7 => ?_) (fun g7 => ?_)
      · replace h := bif_t h g7
        refine W_co [] [0, 1, 2, 3] [0, 1, 2] (s' := ⟨[(0, .c (.pt 0 0)), (1, .c (.wh 1)), (2, .c (.pt 2 0)), (3, .c (.s (.k .i64 i3_1)))], [], [⟨.blk, 28, 1, 8, .w (List.replicate 8 0)⟩, ⟨.row, 59, 1, (prN 18).length, .q (prN 18)⟩, ⟨.blk, 28, 1, 8, .w w2_1⟩]⟩) (by kernel_rfl) (W_skip ?_)
        refine W_seq ?_
        refine W_block ?_
        obtain ⟨g2, h⟩ := gd_some h
        obtain ⟨g3, h⟩ := gd_some h
        obtain ⟨g4, h⟩ := gd_some h
        obtain ⟨g5, h⟩ := gd_some h
        refine W_reg hT (ftL_cons (k := 5) (f := 30) (F := fraction_ct) fraction_h (fun _ _ => True.intro) ftL_nil) [] [] [0, 1, 2, 3] [0, 1, 2] (s' := ⟨[(0, .c (.pt 0 0)), (1, .c (.wh 1)), (2, .c (.pt 2 0)), (3, .c (.s (.k .i64 i3_1)))], [], [⟨.blk, 28, 1, 8, .w (List.replicate 8 0)⟩, ⟨.row, 59, 1, (prN 18).length, .q (prN 18)⟩, ⟨.blk, 28, 1, 8, .w (w2_1.set i3_1.toNat (fracF false ((prN 18).getD i3_1.toNat 0)))⟩]⟩) (by kernel_rfl) (allP_cons.2 ⟨g2, (allP_cons.2 ⟨g3, (allP_cons.2 ⟨g4, (allP_cons.2 ⟨g5, allP_nil⟩)⟩)⟩)⟩) ?_
        obtain ⟨g6, h⟩ := gd_some h
        refine W_reg hT ftL_nil [] [] [0, 1, 2, 3] [0, 1, 2] (s' := (refbegin_l1_E (w2_1.set i3_1.toNat (fracF false ((prN 18).getD i3_1.toNat 0))) (i3_1 + 1))) (by kernel_rfl) (allP_cons.2 ⟨g6, allP_nil⟩) ?_
        exact refbegin_l1_M h
      · replace h := bif_f h g7
        refine W_co [] [0, 2] [0, 2] (s' := ⟨[(0, .c (.pt 0 0)), (2, .c (.pt 1 0))], [], [⟨.blk, 28, 1, 8, .w (List.replicate 8 0)⟩, ⟨.blk, 28, 1, 8, .w w2_1⟩]⟩) (by kernel_rfl) (W_exit ?_)
        refine W_seq ?_
        refine W_reg hT ftL_nil [] [] [0] [0] (s' := ⟨[(0, .c (.pt 0 0))], [], [⟨.blk, 28, 1, 8, .w w2_1⟩]⟩) (by kernel_rfl) allP_nil ?_
        refine W_co [] [0] [0] (s' := (refbegin_R w2_1)) (by kernel_rfl) (W_ret ?_)
        exact ⟨.inl rfl, by cases h; rfl⟩
  · rintro e s' ⟨he, rfl⟩
    refine ⟨he, fun a' w' hr => ?_⟩
    exact retS_ok tabO_shc hr (rs := [.cell 0 28]) rfl (objs := []) (by kernel_rfl)
def made_R (r : UInt32 × UInt32 × UInt32 × UInt32 × UInt32 × UInt32 × UInt32 × UInt32) : S := ⟨[(0, .c (.pt 0 0))], [], [⟨.blk, 47, 1, 9, .c [.wh 1, .s (.u32 r.1), .s (.u32 r.2.1), .s (.u32 r.2.2.1), .s (.u32 r.2.2.2.1), .s (.u32 r.2.2.2.2.1), .s (.u32 r.2.2.2.2.2.1), .s (.u32 r.2.2.2.2.2.2.1), .s (.u32 r.2.2.2.2.2.2.2)]⟩, ⟨.row, 24, 1, (consts).length, .w (consts)⟩]⟩
def made_ct (n : Nat) (r : UInt32 × UInt32 × UInt32 × UInt32 × UInt32 × UInt32 × UInt32 × UInt32) : Ct := fun args H => match args with
  | [] => some ([made n = some r], shA H.length (.g 9 (.c [.wh 0, .s (.u32 r.1), .s (.u32 r.2.1), .s (.u32 r.2.2.1), .s (.u32 r.2.2.2.1), .s (.u32 r.2.2.2.2.1), .s (.u32 r.2.2.2.2.2.1), .s (.u32 r.2.2.2.2.2.2.1), .s (.u32 r.2.2.2.2.2.2.2)])), shH H.length [⟨.row, 24, 1, (consts).length, .w (consts)⟩])
  | _ => none
theorem made_ok (n : Nat) (r : UInt32 × UInt32 × UInt32 × UInt32 × UInt32 × UInt32 × UInt32 × UInt32) : FnOk Tryd.prog Tr 23 (made_ct n r) := by
  refine ⟨fun args H g av objs hF hg ρ w vals hG hp ha => ?_, _, Tryd.func23, by kernel_rfl, by kernel_rfl⟩
  have hI : ∀ w', Kp (fun _ => False) w w' → Tr w' := fun _ hk => Tr.keep hk.below hG
  obtain rfl : args = [] := by
    unfold made_ct at hF; split at hF
    · exact rfl
    · cases hF
  simp only [made_ct, Option.some.injEq, Prod.mk.injEq] at hF
  obtain ⟨rfl, rfl, rfl⟩ := hF
  obtain rfl := F2.inv0 ha
  have h : made n = some r := hg
  have hR0 := rel0 (n := 4) (w := w) (args := []) (H := []) (gl := []) (hpL (ps := []) F2.nil) (allRo_ok rfl) F2.nil GlR.nil (by simp)
  clear ha hp hg 
  refine calls_W Tryd.func23 rfl rfl hR0 (Q := fun e s => (e = .ret ∨ e = .normal) ∧ s = made_R r) ?_ ?_
  · clear hR0
    unfold made at h
    have hT := tabO_shc
    refine W_seq ?_
    refine W_reg hT ftL_nil [] [] [0] [0] (s' := ⟨[(0, .c (.pt 0 0))], [], [⟨.blk, 47, 1, 9, .c [.nils, .s (.u32 0), .s (.u32 0), .s (.u32 0), .s (.u32 0), .s (.u32 0), .s (.u32 0), .s (.u32 0), .s (.u32 0)]⟩]⟩) (by kernel_rfl) allP_nil ?_
    refine W_seq ?_
    obtain ⟨r2_1, g1, h⟩ := bind_some' h
    refine W_reg hT (ftL_cons (k := 0) (f := 18) (F := constants_ct) constants_h (fun _ _ => True.intro) (ftL_cons (k := 1) (f := 32) (F := (refbegin_ct n r2_1)) (refbegin_ok n r2_1) (fun _ _ => True.intro) ftL_nil)) [] [] [0] [0, 1] (s' := ⟨[(0, .c (.pt 0 0))], [], [⟨.blk, 47, 1, 9, .c [.wh 1, .s (.u32 (r2_1.getD 0 0)), .s (.u32 (r2_1.getD 1 0)), .s (.u32 (r2_1.getD 2 0)), .s (.u32 (r2_1.getD 3 0)), .s (.u32 (r2_1.getD 4 0)), .s (.u32 (r2_1.getD 5 0)), .s (.u32 (r2_1.getD 6 0)), .s (.u32 (r2_1.getD 7 0))]⟩, ⟨.row, 24, 1, (consts).length, .w (consts)⟩]⟩) (by kernel_rfl) (allP_cons.2 ⟨g1, allP_nil⟩) ?_
    refine W_co [] [0] [0, 1] (s' := (made_R ((r2_1.getD 0 0), (r2_1.getD 1 0), (r2_1.getD 2 0), (r2_1.getD 3 0), (r2_1.getD 4 0), (r2_1.getD 5 0), (r2_1.getD 6 0), (r2_1.getD 7 0)))) (by kernel_rfl) (W_ret ?_)
    exact ⟨.inl rfl, by cases h; rfl⟩
  · rintro e s' ⟨he, rfl⟩
    refine ⟨he, fun a' w' hr => ?_⟩
    exact retS_ok tabO_shc hr (rs := [.cell 0 47]) rfl (objs := [1]) (by kernel_rfl)
def refsum_l2_E (a0_0 : List UInt32) (a0_1_0 : UInt32) (a0_1_1 : UInt32) (a0_1_2 : UInt32) (a0_1_3 : UInt32) (a0_1_4 : UInt32) (a0_1_5 : UInt32) (a0_1_6 : UInt32) (a0_1_7 : UInt32) (a1 : List UInt8) (w6_1 : List UInt32) (i7_1 : Int) (l8_5 : List UInt8) (i9_5 : Int) : S := ⟨[(2, .c (.pt 0 0)), (5, .c (.wh 2)), (6, .c (.pt 3 0)), (7, .c (.s (.k .i64 i7_1))), (8, .c (.pt 4 0)), (9, .c (.s (.k .i64 i9_5)))], [], [⟨.blk, 47, 1, 9, .c [.wh 1, .s (.u32 a0_1_0), .s (.u32 a0_1_1), .s (.u32 a0_1_2), .s (.u32 a0_1_3), .s (.u32 a0_1_4), .s (.u32 a0_1_5), .s (.u32 a0_1_6), .s (.u32 a0_1_7)]⟩, ⟨(.ro false), 24, 1, a0_0.length, .w a0_0⟩, ⟨.row, 5, 1, (([] ++ a1) ++ (tailOf (((a1.length : Nat) : Int)).toNat)).length, .b (([] ++ a1) ++ (tailOf (((a1.length : Nat) : Int)).toNat))⟩, ⟨.blk, 28, 1, 8, .w w6_1⟩, ⟨.blk, 22, 1, 64, .b l8_5⟩]⟩
def refsum_l2_P (n : Nat) (a0_0 : List UInt32) (a0_1_0 : UInt32) (a0_1_1 : UInt32) (a0_1_2 : UInt32) (a0_1_3 : UInt32) (a0_1_4 : UInt32) (a0_1_5 : UInt32) (a0_1_6 : UInt32) (a0_1_7 : UInt32) (a1 : List UInt8) (w6_1 : List UInt32) (i7_1 : Int) (k_l1 : (List UInt32) → Int → Option (List UInt8)) (r : List UInt8) (fu : Nat) : S → Prop := fun s => ∃ (l8_5 : List UInt8), ∃ (i9_5 : Int), s = refsum_l2_E a0_0 a0_1_0 a0_1_1 a0_1_2 a0_1_3 a0_1_4 a0_1_5 a0_1_6 a0_1_7 a1 w6_1 i7_1 l8_5 i9_5 ∧ refsum_l2 n a0_0 a0_1_0 a0_1_1 a0_1_2 a0_1_3 a0_1_4 a0_1_5 a0_1_6 a0_1_7 a1 w6_1 i7_1 k_l1 fu l8_5 i9_5 = some r
theorem refsum_l2_M {n : Nat} {a0_0 : List UInt32} {a0_1_0 : UInt32} {a0_1_1 : UInt32} {a0_1_2 : UInt32} {a0_1_3 : UInt32} {a0_1_4 : UInt32} {a0_1_5 : UInt32} {a0_1_6 : UInt32} {a0_1_7 : UInt32} {a1 : List UInt8} {w6_1 : List UInt32} {i7_1 : Int} {k_l1 : (List UInt32) → Int → Option (List UInt8)} {l8_5 : List UInt8} {i9_5 : Int} {r : List UInt8} {fu : Nat} (h : refsum_l2 n a0_0 a0_1_0 a0_1_1 a0_1_2 a0_1_3 a0_1_4 a0_1_5 a0_1_6 a0_1_7 a1 w6_1 i7_1 k_l1 fu l8_5 i9_5 = some r) : refsum_l2_P n a0_0 a0_1_0 a0_1_1 a0_1_2 a0_1_3 a0_1_4 a0_1_5 a0_1_6 a0_1_7 a1 w6_1 i7_1 k_l1 r fu (refsum_l2_E a0_0 a0_1_0 a0_1_1 a0_1_2 a0_1_3 a0_1_4 a0_1_5 a0_1_6 a0_1_7 a1 w6_1 i7_1 l8_5 i9_5) := ⟨l8_5, i9_5, rfl, h⟩
def refsum_l3_E (w6_1 : List UInt32) (l10_1 : List UInt8) (i11_1 : Int) : S := ⟨[(6, .c (.pt 0 0)), (10, .c (.wh 1)), (11, .c (.s (.k .i64 i11_1)))], [], [⟨.blk, 28, 1, 8, .w w6_1⟩, ⟨.row, 5, 1, l10_1.length, .b l10_1⟩]⟩
def refsum_l3_P (n : Nat) (w6_1 : List UInt32) (r : List UInt8) (fu : Nat) : S → Prop := fun s => ∃ (l10_1 : List UInt8), ∃ (i11_1 : Int), s = refsum_l3_E w6_1 l10_1 i11_1 ∧ refsum_l3 n w6_1 fu l10_1 i11_1 = some r
theorem refsum_l3_M {n : Nat} {w6_1 : List UInt32} {l10_1 : List UInt8} {i11_1 : Int} {r : List UInt8} {fu : Nat} (h : refsum_l3 n w6_1 fu l10_1 i11_1 = some r) : refsum_l3_P n w6_1 r fu (refsum_l3_E w6_1 l10_1 i11_1) := ⟨l10_1, i11_1, rfl, h⟩
def refsum_l1_E (a0_0 : List UInt32) (a0_1_0 : UInt32) (a0_1_1 : UInt32) (a0_1_2 : UInt32) (a0_1_3 : UInt32) (a0_1_4 : UInt32) (a0_1_5 : UInt32) (a0_1_6 : UInt32) (a0_1_7 : UInt32) (a1 : List UInt8) (w6_1 : List UInt32) (i7_1 : Int) : S := ⟨[(2, .c (.pt 0 0)), (5, .c (.wh 2)), (6, .c (.pt 3 0)), (7, .c (.s (.k .i64 i7_1)))], [], [⟨.blk, 47, 1, 9, .c [.wh 1, .s (.u32 a0_1_0), .s (.u32 a0_1_1), .s (.u32 a0_1_2), .s (.u32 a0_1_3), .s (.u32 a0_1_4), .s (.u32 a0_1_5), .s (.u32 a0_1_6), .s (.u32 a0_1_7)]⟩, ⟨(.ro false), 24, 1, a0_0.length, .w a0_0⟩, ⟨.row, 5, 1, (([] ++ a1) ++ (tailOf (((a1.length : Nat) : Int)).toNat)).length, .b (([] ++ a1) ++ (tailOf (((a1.length : Nat) : Int)).toNat))⟩, ⟨.blk, 28, 1, 8, .w w6_1⟩]⟩
def refsum_l1_P (n : Nat) (a0_0 : List UInt32) (a0_1_0 : UInt32) (a0_1_1 : UInt32) (a0_1_2 : UInt32) (a0_1_3 : UInt32) (a0_1_4 : UInt32) (a0_1_5 : UInt32) (a0_1_6 : UInt32) (a0_1_7 : UInt32) (a1 : List UInt8) (r : List UInt8) (fu : Nat) : S → Prop := fun s => ∃ (w6_1 : List UInt32), ∃ (i7_1 : Int), s = refsum_l1_E a0_0 a0_1_0 a0_1_1 a0_1_2 a0_1_3 a0_1_4 a0_1_5 a0_1_6 a0_1_7 a1 w6_1 i7_1 ∧ refsum_l1 n a0_0 a0_1_0 a0_1_1 a0_1_2 a0_1_3 a0_1_4 a0_1_5 a0_1_6 a0_1_7 a1 fu w6_1 i7_1 = some r
theorem refsum_l1_M {n : Nat} {a0_0 : List UInt32} {a0_1_0 : UInt32} {a0_1_1 : UInt32} {a0_1_2 : UInt32} {a0_1_3 : UInt32} {a0_1_4 : UInt32} {a0_1_5 : UInt32} {a0_1_6 : UInt32} {a0_1_7 : UInt32} {a1 : List UInt8} {w6_1 : List UInt32} {i7_1 : Int} {r : List UInt8} {fu : Nat} (h : refsum_l1 n a0_0 a0_1_0 a0_1_1 a0_1_2 a0_1_3 a0_1_4 a0_1_5 a0_1_6 a0_1_7 a1 fu w6_1 i7_1 = some r) : refsum_l1_P n a0_0 a0_1_0 a0_1_1 a0_1_2 a0_1_3 a0_1_4 a0_1_5 a0_1_6 a0_1_7 a1 r fu (refsum_l1_E a0_0 a0_1_0 a0_1_1 a0_1_2 a0_1_3 a0_1_4 a0_1_5 a0_1_6 a0_1_7 a1 w6_1 i7_1) := ⟨w6_1, i7_1, rfl, h⟩
def refsum_R (r : List UInt8) : S := ⟨[(4, .c (.wh 0))], [], [⟨.row, 5, 1, r.length, .b r⟩]⟩
def refsum_ct (n : Nat) (r : List UInt8) : Ct := fun args H => match args with
  | [x0, x1] => (match aGc 9 x0 with | some y0 => (match aW H (.c (y0.getD 0 .junk)) with | some l0_0 => (match aU32 (.c (y0.getD 1 .junk)) with | some l0_1 => (match aU32 (.c (y0.getD 2 .junk)) with | some l0_2 => (match aU32 (.c (y0.getD 3 .junk)) with | some l0_3 => (match aU32 (.c (y0.getD 4 .junk)) with | some l0_4 => (match aU32 (.c (y0.getD 5 .junk)) with | some l0_5 => (match aU32 (.c (y0.getD 6 .junk)) with | some l0_6 => (match aU32 (.c (y0.getD 7 .junk)) with | some l0_7 => (match aU32 (.c (y0.getD 8 .junk)) with | some l0_8 => (match aB H x1 with | some l1 => some ([refsum n l0_0 l0_1 l0_2 l0_3 l0_4 l0_5 l0_6 l0_7 l0_8 l1 = some r], shA H.length (.c (.wh 0)), shH H.length [⟨.row, 5, 1, r.length, .b r⟩]) | none => none) | none => none) | none => none) | none => none) | none => none) | none => none) | none => none) | none => none) | none => none) | none => none) | none => none)
  | _ => none
theorem refsum_ok (n : Nat) (r : List UInt8) : FnOk Tryd.prog Tr 24 (refsum_ct n r) := by
  refine ⟨fun args H g av objs hF hg ρ w vals hG hp ha => ?_, _, Tryd.func24, by kernel_rfl, by kernel_rfl⟩
  have hI : ∀ w', Kp (fun _ => False) w w' → Tr w' := fun _ hk => Tr.keep hk.below hG
  obtain ⟨x0, x1, rfl⟩ : ∃ x0 x1, args = [x0, x1] := by
    unfold refsum_ct at hF; split at hF
    · exact ⟨_, _, rfl⟩
    · cases hF
  cases e0 : aGc 9 x0 with
  | none => simp only [refsum_ct, e0, reduceCtorEq] at hF
  | some y0 =>
  cases e1 : aW H (.c (y0.getD 0 .junk)) with
  | none => simp only [refsum_ct, e0, e1, reduceCtorEq] at hF
  | some l0_0 =>
  cases e2 : aU32 (.c (y0.getD 1 .junk)) with
  | none => simp only [refsum_ct, e0, e1, e2, reduceCtorEq] at hF
  | some l0_1 =>
  cases e3 : aU32 (.c (y0.getD 2 .junk)) with
  | none => simp only [refsum_ct, e0, e1, e2, e3, reduceCtorEq] at hF
  | some l0_2 =>
  cases e4 : aU32 (.c (y0.getD 3 .junk)) with
  | none => simp only [refsum_ct, e0, e1, e2, e3, e4, reduceCtorEq] at hF
  | some l0_3 =>
  cases e5 : aU32 (.c (y0.getD 4 .junk)) with
  | none => simp only [refsum_ct, e0, e1, e2, e3, e4, e5, reduceCtorEq] at hF
  | some l0_4 =>
  cases e6 : aU32 (.c (y0.getD 5 .junk)) with
  | none => simp only [refsum_ct, e0, e1, e2, e3, e4, e5, e6, reduceCtorEq] at hF
  | some l0_5 =>
  cases e7 : aU32 (.c (y0.getD 6 .junk)) with
  | none => simp only [refsum_ct, e0, e1, e2, e3, e4, e5, e6, e7, reduceCtorEq] at hF
  | some l0_6 =>
  cases e8 : aU32 (.c (y0.getD 7 .junk)) with
  | none => simp only [refsum_ct, e0, e1, e2, e3, e4, e5, e6, e7, e8, reduceCtorEq] at hF
  | some l0_7 =>
  cases e9 : aU32 (.c (y0.getD 8 .junk)) with
  | none => simp only [refsum_ct, e0, e1, e2, e3, e4, e5, e6, e7, e8, e9, reduceCtorEq] at hF
  | some l0_8 =>
  cases e10 : aB H x1 with
  | none => simp only [refsum_ct, e0, e1, e2, e3, e4, e5, e6, e7, e8, e9, e10, reduceCtorEq] at hF
  | some l1 =>
  simp only [refsum_ct, e0, e1, e2, e3, e4, e5, e6, e7, e8, e9, e10, Option.some.injEq, Prod.mk.injEq] at hF
  obtain ⟨rfl, rfl, rfl⟩ := hF
  obtain ⟨v0, vals, rfl, k0, ha⟩ := F2.inv ha
  obtain ⟨v1, vals, rfl, k1, ha⟩ := F2.inv ha
  obtain rfl := F2.inv0 ha
  have h : refsum n l0_0 l0_1 l0_2 l0_3 l0_4 l0_5 l0_6 l0_7 l0_8 l1 = some r := hg
  obtain ⟨vs0, hn0, rfl, hy0⟩ := aGc_ok e0 k0
  obtain ⟨p0_0, s0_0, o0_0⟩ := aW_ok hp e1 (hy0 0 (by decide)) 24
  have s0_1 := aU32_ok e2 (hy0 1 (by decide))
  have s0_2 := aU32_ok e3 (hy0 2 (by decide))
  have s0_3 := aU32_ok e4 (hy0 3 (by decide))
  have s0_4 := aU32_ok e5 (hy0 4 (by decide))
  have s0_5 := aU32_ok e6 (hy0 5 (by decide))
  have s0_6 := aU32_ok e7 (hy0 6 (by decide))
  have s0_7 := aU32_ok e8 (hy0 7 (by decide))
  have s0_8 := aU32_ok e9 (hy0 8 (by decide))
  obtain ⟨p1, s1, o1⟩ := aB_ok hp e10 (k1) 5
  have hR0 := rel0 (n := 71) (w := w) (args := [.g 9 (.c [.wh 0, .s (.u32 l0_1), .s (.u32 l0_2), .s (.u32 l0_3), .s (.u32 l0_4), .s (.u32 l0_5), .s (.u32 l0_6), .s (.u32 l0_7), .s (.u32 l0_8)]), .c (.wh 1)]) (H := [⟨.ro false, 24, 1, l0_0.length, .w l0_0⟩, ⟨.ro false, 5, 1, l1.length, .b l1⟩]) (gl := []) (hpL (ps := [p0_0, p1]) (F2.cons o0_0 (F2.cons o1 F2.nil))) (allRo_ok rfl) (F2.cons ⟨vs0, (by rw [lstE undef hn0]; exact (F2.cons s0_0 (F2.cons s0_1 (F2.cons s0_2 (F2.cons s0_3 (F2.cons s0_4 (F2.cons s0_5 (F2.cons s0_6 (F2.cons s0_7 (F2.cons s0_8 F2.nil)))))))))), hn0, rfl⟩ (F2.cons s1 F2.nil)) GlR.nil (by simp)
  clear ha hp hg k0 k1 e0 e1 e2 e3 e4 e5 e6 e7 e8 e9 e10
  refine calls_W Tryd.func24 rfl rfl hR0 (Q := fun e s => (e = .ret ∨ e = .normal) ∧ s = refsum_R r) ?_ ?_
  · clear hR0
    unfold refsum at h
    have hT := tabO_shc
    refine W_seq ?_
    refine W_reg hT ftL_nil [] [] [1, 2] [1, 2, 0] (s' := ⟨[(1, .c (.wh 0)), (2, .c (.pt 1 0))], [], [⟨(.ro false), 5, 1, l1.length, .b l1⟩, ⟨.blk, 47, 1, 9, .c [.wh 2, .s (.u32 l0_1), .s (.u32 l0_2), .s (.u32 l0_3), .s (.u32 l0_4), .s (.u32 l0_5), .s (.u32 l0_6), .s (.u32 l0_7), .s (.u32 l0_8)]⟩, ⟨(.ro false), 24, 1, l0_0.length, .w l0_0⟩]⟩) (by kernel_rfl) allP_nil ?_
    refine W_seq ?_
    obtain ⟨g1, h⟩ := gd_some h
    obtain ⟨g2, h⟩ := gd_some h
    obtain ⟨g3, h⟩ := gd_some h
    obtain ⟨g4, h⟩ := gd_some h
    refine W_reg hT (ftL_cons (k := 5) (f := 20) (F := reftail_ct) reftail_h (fun _ _ => True.intro) ftL_nil) [] [] [2, 5] [1, 2, 6] (s' := ⟨[(2, .c (.pt 0 0)), (5, .c (.wh 2))], [], [⟨.blk, 47, 1, 9, .c [.wh 1, .s (.u32 l0_1), .s (.u32 l0_2), .s (.u32 l0_3), .s (.u32 l0_4), .s (.u32 l0_5), .s (.u32 l0_6), .s (.u32 l0_7), .s (.u32 l0_8)]⟩, ⟨(.ro false), 24, 1, l0_0.length, .w l0_0⟩, ⟨.row, 5, 1, (([] ++ l1) ++ (tailOf (((l1.length : Nat) : Int)).toNat)).length, .b (([] ++ l1) ++ (tailOf (((l1.length : Nat) : Int)).toNat))⟩]⟩) (by kernel_rfl) (allP_cons.2 ⟨g1, (allP_cons.2 ⟨g2, (allP_cons.2 ⟨g3, (allP_cons.2 ⟨g4, allP_nil⟩)⟩)⟩)⟩) ?_
    refine W_seq ?_
    obtain ⟨g5, h⟩ := gd_some h
    refine W_reg hT ftL_nil [] [] [2, 5, 6] [0, 1, 2, 3] (s' := ⟨[(2, .c (.pt 0 0)), (5, .c (.wh 2)), (6, .c (.pt 3 0))], [], [⟨.blk, 47, 1, 9, .c [.wh 1, .s (.u32 l0_1), .s (.u32 l0_2), .s (.u32 l0_3), .s (.u32 l0_4), .s (.u32 l0_5), .s (.u32 l0_6), .s (.u32 l0_7), .s (.u32 l0_8)]⟩, ⟨(.ro false), 24, 1, l0_0.length, .w l0_0⟩, ⟨.row, 5, 1, (([] ++ l1) ++ (tailOf (((l1.length : Nat) : Int)).toNat)).length, .b (([] ++ l1) ++ (tailOf (((l1.length : Nat) : Int)).toNat))⟩, ⟨.blk, 28, 1, 8, .c [.s (.u32 l0_1), .s (.u32 l0_2), .s (.u32 l0_3), .s (.u32 l0_4), .s (.u32 l0_5), .s (.u32 l0_6), .s (.u32 l0_7), .s (.u32 l0_8)]⟩]⟩) (by kernel_rfl) (allP_cons.2 ⟨g5, allP_nil⟩) ?_
    refine W_seq ?_
    refine W_seq ?_
    refine W_reg hT ftL_nil [] [] [2, 5, 6, 7] [0, 1, 2, 3] (s' := ⟨[(2, .c (.pt 0 0)), (5, .c (.wh 2)), (6, .c (.pt 3 0)), (7, .c (.s (.k .i64 0)))], [], [⟨.blk, 47, 1, 9, .c [.wh 1, .s (.u32 l0_1), .s (.u32 l0_2), .s (.u32 l0_3), .s (.u32 l0_4), .s (.u32 l0_5), .s (.u32 l0_6), .s (.u32 l0_7), .s (.u32 l0_8)]⟩, ⟨(.ro false), 24, 1, l0_0.length, .w l0_0⟩, ⟨.row, 5, 1, (([] ++ l1) ++ (tailOf (((l1.length : Nat) : Int)).toNat)).length, .b (([] ++ l1) ++ (tailOf (((l1.length : Nat) : Int)).toNat))⟩, ⟨.blk, 28, 1, 8, .c [.s (.u32 l0_1), .s (.u32 l0_2), .s (.u32 l0_3), .s (.u32 l0_4), .s (.u32 l0_5), .s (.u32 l0_6), .s (.u32 l0_7), .s (.u32 l0_8)]⟩]⟩) (by kernel_rfl) allP_nil ?_
    refine W_block ?_
    refine W_co [.ty 3] [2, 5, 6, 7] [0, 1, 2, 3] (s' := (refsum_l1_E l0_0 l0_1 l0_2 l0_3 l0_4 l0_5 l0_6 l0_7 l0_8 l1 [l0_1, l0_2, l0_3, l0_4, l0_5, l0_6, l0_7, l0_8] 0)) (by kernel_rfl) (W_lp ((refsum_l1_P n l0_0 l0_1 l0_2 l0_3 l0_4 l0_5 l0_6 l0_7 l0_8 l1 r)) n (refsum_l1_M h) ?_)
    rintro fu_l1 _ ⟨w6_1, i7_1, rfl, h⟩
    cases fu_l1 with
    | zero => cases h
    | succ fu_l1 =>
      refine ⟨fu_l1, rfl, ?_⟩
      rw [refsum_l1] at h
      refine W_seq ?_
      refine W_seq ?_
      refine W_reg hT ftL_nil [] [] [2, 5, 6, 7, 24] [0, 1, 2, 3] (s' := ⟨[(2, .c (.pt 0 0)), (5, .c (.wh 2)), (6, .c (.pt 3 0)), (7, .c (.s (.k .i64 i7_1))), (24, .c (.s (.b (decide (i7_1 < (((([] ++ l1) ++ (tailOf (((l1.length : Nat) : Int)).toNat)).length : Nat) : Int))))))], [], [⟨.blk, 47, 1, 9, .c [.wh 1, .s (.u32 l0_1), .s (.u32 l0_2), .s (.u32 l0_3), .s (.u32 l0_4), .s (.u32 l0_5), .s (.u32 l0_6), .s (.u32 l0_7), .s (.u32 l0_8)]⟩, ⟨(.ro false), 24, 1, l0_0.length, .w l0_0⟩, ⟨.row, 5, 1, (([] ++ l1) ++ (tailOf (((l1.length : Nat) : Int)).toNat)).length, .b (([] ++ l1) ++ (tailOf (((l1.length : Nat) : Int)).toNat))⟩, ⟨.blk, 28, 1, 8, .w w6_1⟩]⟩) (by kernel_rfl) allP_nil ?_
      refine W_cond (b := (decide (i7_1 < (((([] ++ l1) ++ (tailOf (((l1.length : Nat) : Int)).toNat)).length : Nat) : Int)))) (by kernel_rfl) (fun g29 => ?_) (fun g29 => ?_)
      · replace h := bif_t h g29
        refine W_co [] [2, 5, 6, 7] [0, 1, 2, 3] (s' := ⟨[(2, .c (.pt 0 0)), (5, .c (.wh 2)), (6, .c (.pt 3 0)), (7, .c (.s (.k .i64 i7_1)))], [], [⟨.blk, 47, 1, 9, .c [.wh 1, .s (.u32 l0_1), .s (.u32 l0_2), .s (.u32 l0_3), .s (.u32 l0_4), .s (.u32 l0_5), .s (.u32 l0_6), .s (.u32 l0_7), .s (.u32 l0_8)]⟩, ⟨(.ro false), 24, 1, l0_0.length, .w l0_0⟩, ⟨.row, 5, 1, (([] ++ l1) ++ (tailOf (((l1.length : Nat) : Int)).toNat)).length, .b (([] ++ l1) ++ (tailOf (((l1.length : Nat) : Int)).toNat))⟩, ⟨.blk, 28, 1, 8, .w w6_1⟩]⟩) (by kernel_rfl) (W_skip ?_)
        refine W_seq ?_
        refine W_block ?_
        refine W_seq ?_
        refine W_reg hT ftL_nil [] [] [2, 5, 6, 7, 8] [0, 1, 2, 3, 4] (s' := ⟨[(2, .c (.pt 0 0)), (5, .c (.wh 2)), (6, .c (.pt 3 0)), (7, .c (.s (.k .i64 i7_1))), (8, .c (.pt 4 0))], [], [⟨.blk, 47, 1, 9, .c [.wh 1, .s (.u32 l0_1), .s (.u32 l0_2), .s (.u32 l0_3), .s (.u32 l0_4), .s (.u32 l0_5), .s (.u32 l0_6), .s (.u32 l0_7), .s (.u32 l0_8)]⟩, ⟨(.ro false), 24, 1, l0_0.length, .w l0_0⟩, ⟨.row, 5, 1, (([] ++ l1) ++ (tailOf (((l1.length : Nat) : Int)).toNat)).length, .b (([] ++ l1) ++ (tailOf (((l1.length : Nat) : Int)).toNat))⟩, ⟨.blk, 28, 1, 8, .w w6_1⟩, ⟨.blk, 22, 1, 64, .b (List.replicate 64 0)⟩]⟩) (by kernel_rfl) allP_nil ?_
        refine W_seq ?_
        refine W_seq ?_
        refine W_reg hT ftL_nil [] [] [2, 5, 6, 7, 8, 9] [0, 1, 2, 3, 4] (s' := ⟨[(2, .c (.pt 0 0)), (5, .c (.wh 2)), (6, .c (.pt 3 0)), (7, .c (.s (.k .i64 i7_1))), (8, .c (.pt 4 0)), (9, .c (.s (.k .i64 0)))], [], [⟨.blk, 47, 1, 9, .c [.wh 1, .s (.u32 l0_1), .s (.u32 l0_2), .s (.u32 l0_3), .s (.u32 l0_4), .s (.u32 l0_5), .s (.u32 l0_6), .s (.u32 l0_7), .s (.u32 l0_8)]⟩, ⟨(.ro false), 24, 1, l0_0.length, .w l0_0⟩, ⟨.row, 5, 1, (([] ++ l1) ++ (tailOf (((l1.length : Nat) : Int)).toNat)).length, .b (([] ++ l1) ++ (tailOf (((l1.length : Nat) : Int)).toNat))⟩, ⟨.blk, 28, 1, 8, .w w6_1⟩, ⟨.blk, 22, 1, 64, .b (List.replicate 64 0)⟩]⟩) (by kernel_rfl) allP_nil ?_
        refine W_block ?_
        refine W_co [] [2, 5, 6, 7, 8, 9] [0, 1, 2, 3, 4] (s' := (refsum_l2_E l0_0 l0_1 l0_2 l0_3 l0_4 l0_5 l0_6 l0_7 l0_8 l1 w6_1 i7_1 (List.replicate 64 0) 0)) (by kernel_rfl) (W_lp ((refsum_l2_P n l0_0 l0_1 l0_2 l0_3 l0_4 l0_5 l0_6 l0_7 l0_8 l1 w6_1 i7_1 (refsum_l1 n l0_0 l0_1 l0_2 l0_3 l0_4 l0_5 l0_6 l0_7 l0_8 l1 fu_l1) r)) n (refsum_l2_M h) ?_)
        rintro fu_l2 _ ⟨l8_5, i9_5, rfl, h⟩
        cases fu_l2 with
        | zero => cases h
        | succ fu_l2 =>
          refine ⟨fu_l2, rfl, ?_⟩
          rw [refsum_l2] at h
          refine W_seq ?_
          refine W_seq ?_
          refine W_reg hT ftL_nil [] [] [2, 5, 6, 7, 8, 9, 28] [0, 1, 2, 3, 4] (s' := ⟨[(2, .c (.pt 0 0)), (5, .c (.wh 2)), (6, .c (.pt 3 0)), (7, .c (.s (.k .i64 i7_1))), (8, .c (.pt 4 0)), (9, .c (.s (.k .i64 i9_5))), (28, .c (.s (.b (decide (i9_5 < (64 : Int))))))], [], [⟨.blk, 47, 1, 9, .c [.wh 1, .s (.u32 l0_1), .s (.u32 l0_2), .s (.u32 l0_3), .s (.u32 l0_4), .s (.u32 l0_5), .s (.u32 l0_6), .s (.u32 l0_7), .s (.u32 l0_8)]⟩, ⟨(.ro false), 24, 1, l0_0.length, .w l0_0⟩, ⟨.row, 5, 1, (([] ++ l1) ++ (tailOf (((l1.length : Nat) : Int)).toNat)).length, .b (([] ++ l1) ++ (tailOf (((l1.length : Nat) : Int)).toNat))⟩, ⟨.blk, 28, 1, 8, .w w6_1⟩, ⟨.blk, 22, 1, 64, .b l8_5⟩]⟩) (by kernel_rfl) allP_nil ?_
          refine W_cond (b := (decide (i9_5 < (64 : Int)))) (by kernel_rfl) (fun g14 => ?_) (fun g14 => ?_)
          · replace h := bif_t h g14
            refine W_co [] [2, 5, 6, 7, 8, 9] [0, 1, 2, 3, 4] (s' := ⟨[(2, .c (.pt 0 0)), (5, .c (.wh 2)), (6, .c (.pt 3 0)), (7, .c (.s (.k .i64 i7_1))), (8, .c (.pt 4 0)), (9, .c (.s (.k .i64 i9_5)))], [], [⟨.blk, 47, 1, 9, .c [.wh 1, .s (.u32 l0_1), .s (.u32 l0_2), .s (.u32 l0_3), .s (.u32 l0_4), .s (.u32 l0_5), .s (.u32 l0_6), .s (.u32 l0_7), .s (.u32 l0_8)]⟩, ⟨(.ro false), 24, 1, l0_0.length, .w l0_0⟩, ⟨.row, 5, 1, (([] ++ l1) ++ (tailOf (((l1.length : Nat) : Int)).toNat)).length, .b (([] ++ l1) ++ (tailOf (((l1.length : Nat) : Int)).toNat))⟩, ⟨.blk, 28, 1, 8, .w w6_1⟩, ⟨.blk, 22, 1, 64, .b l8_5⟩]⟩) (by kernel_rfl) (W_skip ?_)
            refine W_seq ?_
            refine W_block ?_
            obtain ⟨g6, h⟩ := gd_some h
            obtain ⟨g7, h⟩ := gd_some h
            obtain ⟨g8, h⟩ := gd_some h
            obtain ⟨g9, h⟩ := gd_some h
            obtain ⟨g10, h⟩ := gd_some h
            refine W_reg hT ftL_nil [] [] [2, 5, 6, 7, 8, 9] [0, 1, 2, 3, 4] (s' := ⟨[(2, .c (.pt 0 0)), (5, .c (.wh 2)), (6, .c (.pt 3 0)), (7, .c (.s (.k .i64 i7_1))), (8, .c (.pt 4 0)), (9, .c (.s (.k .i64 i9_5)))], [], [⟨.blk, 47, 1, 9, .c [.wh 1, .s (.u32 l0_1), .s (.u32 l0_2), .s (.u32 l0_3), .s (.u32 l0_4), .s (.u32 l0_5), .s (.u32 l0_6), .s (.u32 l0_7), .s (.u32 l0_8)]⟩, ⟨(.ro false), 24, 1, l0_0.length, .w l0_0⟩, ⟨.row, 5, 1, (([] ++ l1) ++ (tailOf (((l1.length : Nat) : Int)).toNat)).length, .b (([] ++ l1) ++ (tailOf (((l1.length : Nat) : Int)).toNat))⟩, ⟨.blk, 28, 1, 8, .w w6_1⟩, ⟨.blk, 22, 1, 64, .b (l8_5.set i9_5.toNat ((([] ++ l1) ++ (tailOf (((l1.length : Nat) : Int)).toNat)).getD ((i7_1 + i9_5).toNat) 0))⟩]⟩) (by kernel_rfl) (allP_cons.2 ⟨g6, (allP_cons.2 ⟨g7, (allP_cons.2 ⟨g8, (allP_cons.2 ⟨g9, (allP_cons.2 ⟨g10, allP_nil⟩)⟩)⟩)⟩)⟩) ?_
            obtain ⟨g11, h⟩ := gd_some h
            refine W_reg hT ftL_nil [] [] [2, 5, 6, 7, 8, 9] [0, 1, 2, 3, 4] (s' := (refsum_l2_E l0_0 l0_1 l0_2 l0_3 l0_4 l0_5 l0_6 l0_7 l0_8 l1 w6_1 i7_1 (l8_5.set i9_5.toNat ((([] ++ l1) ++ (tailOf (((l1.length : Nat) : Int)).toNat)).getD ((i7_1 + i9_5).toNat) 0)) (i9_5 + 1))) (by kernel_rfl) (allP_cons.2 ⟨g11, allP_nil⟩) ?_
            exact refsum_l2_M h
          · replace h := bif_f h g14
            refine W_co [] [2, 5, 6, 7, 8] [0, 1, 2, 3, 4] (s' := ⟨[(2, .c (.pt 0 0)), (5, .c (.wh 2)), (6, .c (.pt 3 0)), (7, .c (.s (.k .i64 i7_1))), (8, .c (.pt 4 0))], [], [⟨.blk, 47, 1, 9, .c [.wh 1, .s (.u32 l0_1), .s (.u32 l0_2), .s (.u32 l0_3), .s (.u32 l0_4), .s (.u32 l0_5), .s (.u32 l0_6), .s (.u32 l0_7), .s (.u32 l0_8)]⟩, ⟨(.ro false), 24, 1, l0_0.length, .w l0_0⟩, ⟨.row, 5, 1, (([] ++ l1) ++ (tailOf (((l1.length : Nat) : Int)).toNat)).length, .b (([] ++ l1) ++ (tailOf (((l1.length : Nat) : Int)).toNat))⟩, ⟨.blk, 28, 1, 8, .w w6_1⟩, ⟨.blk, 22, 1, 64, .b l8_5⟩]⟩) (by kernel_rfl) (W_exit ?_)
            obtain ⟨g12, h⟩ := gd_some h
            refine W_reg hT (ftL_cons (k := 4) (f := 17) (F := refpress_ct) refpress_h (fun _ _ => True.intro) ftL_nil) [] [] [2, 5, 6, 7] [0, 1, 2, 3] (s' := ⟨[(2, .c (.pt 0 0)), (5, .c (.wh 2)), (6, .c (.pt 3 0)), (7, .c (.s (.k .i64 i7_1)))], [], [⟨.blk, 47, 1, 9, .c [.wh 1, .s (.u32 l0_1), .s (.u32 l0_2), .s (.u32 l0_3), .s (.u32 l0_4), .s (.u32 l0_5), .s (.u32 l0_6), .s (.u32 l0_7), .s (.u32 l0_8)]⟩, ⟨(.ro false), 24, 1, l0_0.length, .w l0_0⟩, ⟨.row, 5, 1, (([] ++ l1) ++ (tailOf (((l1.length : Nat) : Int)).toNat)).length, .b (([] ++ l1) ++ (tailOf (((l1.length : Nat) : Int)).toNat))⟩, ⟨.blk, 28, 1, 8, .w (pressL l0_0 w6_1 l8_5)⟩]⟩) (by kernel_rfl) (allP_cons.2 ⟨g12, allP_nil⟩) ?_
            obtain ⟨g13, h⟩ := gd_some h
            refine W_reg hT ftL_nil [] [] [2, 5, 6, 7] [0, 1, 2, 3] (s' := (refsum_l1_E l0_0 l0_1 l0_2 l0_3 l0_4 l0_5 l0_6 l0_7 l0_8 l1 (pressL l0_0 w6_1 l8_5) (i7_1 + 64))) (by kernel_rfl) (allP_cons.2 ⟨g13, allP_nil⟩) ?_
            exact refsum_l1_M h
      · replace h := bif_f h g29
        refine W_co [] [6] [3] (s' := ⟨[(6, .c (.pt 0 0))], [], [⟨.blk, 28, 1, 8, .w w6_1⟩]⟩) (by kernel_rfl) (W_exit ?_)
        refine W_seq ?_
        refine W_reg hT ftL_nil [] [] [6, 10] [0] (s' := ⟨[(6, .c (.pt 0 0)), (10, .c (.nils))], [], [⟨.blk, 28, 1, 8, .w w6_1⟩]⟩) (by kernel_rfl) allP_nil ?_
        refine W_seq ?_
        refine W_seq ?_
        refine W_reg hT ftL_nil [] [] [6, 10, 11] [0] (s' := ⟨[(6, .c (.pt 0 0)), (10, .c (.nils)), (11, .c (.s (.k .i64 0)))], [], [⟨.blk, 28, 1, 8, .w w6_1⟩]⟩) (by kernel_rfl) allP_nil ?_
        refine W_block ?_
        refine W_co [.nil 10 5 1 (.b [])] [6, 10, 11] [0, 1] (s' := (refsum_l3_E w6_1 [] 0)) (by kernel_rfl) (W_lp ((refsum_l3_P n w6_1 r)) n (refsum_l3_M h) ?_)
        rintro fu_l3 _ ⟨l10_1, i11_1, rfl, h⟩
        cases fu_l3 with
        | zero => cases h
        | succ fu_l3 =>
          refine ⟨fu_l3, rfl, ?_⟩
          rw [refsum_l3] at h
          refine W_seq ?_
          refine W_seq ?_
          refine W_reg hT ftL_nil [] [] [6, 10, 11, 45] [0, 1] (s' := ⟨[(6, .c (.pt 0 0)), (10, .c (.wh 1)), (11, .c (.s (.k .i64 i11_1))), (45, .c (.s (.b (decide (i11_1 < (8 : Int))))))], [], [⟨.blk, 28, 1, 8, .w w6_1⟩, ⟨.row, 5, 1, l10_1.length, .b l10_1⟩]⟩) (by kernel_rfl) allP_nil ?_
          refine W_cond (b := (decide (i11_1 < (8 : Int)))) (by kernel_rfl) (fun g28 => ?_) (fun g28 => ?_)
          · replace h := bif_t h g28
            refine W_co [] [6, 10, 11] [0, 1] (s' := ⟨[(6, .c (.pt 0 0)), (10, .c (.wh 1)), (11, .c (.s (.k .i64 i11_1)))], [], [⟨.blk, 28, 1, 8, .w w6_1⟩, ⟨.row, 5, 1, l10_1.length, .b l10_1⟩]⟩) (by kernel_rfl) (W_skip ?_)
            refine W_seq ?_
            refine W_block ?_
            obtain ⟨g15, h⟩ := gd_some h
            obtain ⟨g16, h⟩ := gd_some h
            obtain ⟨g17, h⟩ := gd_some h
            obtain ⟨g18, h⟩ := gd_some h
            obtain ⟨g19, h⟩ := gd_some h
            obtain ⟨g20, h⟩ := gd_some h
            obtain ⟨g21, h⟩ := gd_some h
            obtain ⟨g22, h⟩ := gd_some h
            obtain ⟨g23, h⟩ := gd_some h
            obtain ⟨g24, h⟩ := gd_some h
            obtain ⟨g25, h⟩ := gd_some h
            obtain ⟨g26, h⟩ := gd_some h
            refine W_regD hT ftL_nil (by kernel_rfl) 21 [] [(6, false), (10, false), (11, false), (48, false), (68, false)] [] [6, 10, 11] [0, 3] (s' := ⟨[(6, .c (.pt 0 0)), (10, .c (.wh 1)), (11, .c (.s (.k .i64 i11_1)))], [], [⟨.blk, 28, 1, 8, .w w6_1⟩, ⟨.row, 5, 1, (l10_1 ++ [((w6_1.getD i11_1.toNat 0) / (16777216 : UInt32)).toUInt8, ((w6_1.getD i11_1.toNat 0) / (65536 : UInt32)).toUInt8, ((w6_1.getD i11_1.toNat 0) / (256 : UInt32)).toUInt8, (w6_1.getD i11_1.toNat 0).toUInt8]).length, .b (l10_1 ++ [((w6_1.getD i11_1.toNat 0) / (16777216 : UInt32)).toUInt8, ((w6_1.getD i11_1.toNat 0) / (65536 : UInt32)).toUInt8, ((w6_1.getD i11_1.toNat 0) / (256 : UInt32)).toUInt8, (w6_1.getD i11_1.toNat 0).toUInt8])⟩]⟩) (by kernel_rfl) (by kernel_rfl) (allP_cons.2 ⟨g15, (allP_cons.2 ⟨g16, (allP_cons.2 ⟨g17, (allP_cons.2 ⟨g18, (allP_cons.2 ⟨g19, (allP_cons.2 ⟨g20, (allP_cons.2 ⟨g21, (allP_cons.2 ⟨g22, (allP_cons.2 ⟨g23, (allP_cons.2 ⟨g24, (allP_cons.2 ⟨g25, (allP_cons.2 ⟨g26, allP_nil⟩)⟩)⟩)⟩)⟩)⟩)⟩)⟩)⟩)⟩)⟩)⟩) ?_
            obtain ⟨g27, h⟩ := gd_some h
            refine W_reg hT ftL_nil [] [] [6, 10, 11] [0, 1] (s' := (refsum_l3_E w6_1 (l10_1 ++ [((w6_1.getD i11_1.toNat 0) / (16777216 : UInt32)).toUInt8, ((w6_1.getD i11_1.toNat 0) / (65536 : UInt32)).toUInt8, ((w6_1.getD i11_1.toNat 0) / (256 : UInt32)).toUInt8, (w6_1.getD i11_1.toNat 0).toUInt8]) (i11_1 + 1))) (by kernel_rfl) (allP_cons.2 ⟨g27, allP_nil⟩) ?_
            exact refsum_l3_M h
          · replace h := bif_f h g28
            refine W_co [] [10] [1] (s' := ⟨[(10, .c (.wh 0))], [], [⟨.row, 5, 1, l10_1.length, .b l10_1⟩]⟩) (by kernel_rfl) (W_exit ?_)
            refine W_seq ?_
            refine W_reg hT ftL_nil [] [] [4] [0] (s' := ⟨[(4, .c (.wh 0))], [], [⟨.row, 5, 1, l10_1.length, .b l10_1⟩]⟩) (by kernel_rfl) allP_nil ?_
            refine W_co [] [4] [0] (s' := (refsum_R l10_1)) (by kernel_rfl) (W_ret ?_)
            exact ⟨.inl rfl, by cases h; rfl⟩
  · rintro e s' ⟨he, rfl⟩
    refine ⟨he, fun a' w' hr => ?_⟩
    exact retS_ok tabO_shc hr (rs := [.tmp 4]) rfl (objs := [0]) (by kernel_rfl)
def shasums_R (r : Bool) : S := ⟨[(2, .c (.s (.b r)))], [], []⟩
def shasums_ct (n : Nat) (r : Bool) : Ct := fun args H => match args with
  | [x0] => (match aB H x0 with | some l0 => some ([shasums n l0 = some r], shA H.length (.c (.s (.b r))), shH H.length []) | none => none)
  | _ => none
theorem shasums_ok (n : Nat) (r : Bool) : FnOk Tryd.prog GK 7 (shasums_ct n r) := by
  refine ⟨fun args H g av objs hF hg ρ w vals hG hp ha => ?_, _, Tryd.func7, by kernel_rfl, by kernel_rfl⟩
  have hI : ∀ w', Kp (fun _ => False) w w' → GK w' := fun _ hk => GK.keep hk.below hG
  obtain ⟨x0, rfl⟩ : ∃ x0, args = [x0] := by
    unfold shasums_ct at hF; split at hF
    · exact ⟨_, rfl⟩
    · cases hF
  cases e0 : aB H x0 with
  | none => simp only [shasums_ct, e0, reduceCtorEq] at hF
  | some l0 =>
  simp only [shasums_ct, e0, Option.some.injEq, Prod.mk.injEq] at hF
  obtain ⟨rfl, rfl, rfl⟩ := hF
  obtain ⟨v0, vals, rfl, k0, ha⟩ := F2.inv ha
  obtain rfl := F2.inv0 ha
  have h : shasums n l0 = some r := hg
  obtain ⟨p0, s0, o0⟩ := aB_ok hp e0 (k0) 5
  have hR0 := rel0 (n := 18) (w := w) (args := [.c (.wh 0)]) (H := [⟨.ro false, 5, 1, l0.length, .b l0⟩]) (gl := []) (hpL (ps := [p0]) (F2.cons o0 F2.nil)) (allRo_ok rfl) (F2.cons s0 F2.nil) GlR.nil (by simp)
  clear ha hp hg k0 e0
  refine calls_W Tryd.func7 rfl rfl hR0 (Q := fun e s => (e = .ret ∨ e = .normal) ∧ s = shasums_R r) ?_ ?_
  · clear hR0
    unfold shasums at h
    have hT := tabO_shc
    refine W_seq ?_
    refine W_reg hT ftL_nil [] [] [0] [0] (s' := ⟨[(0, .c (.wh 0))], [], [⟨(.ro false), 5, 1, l0.length, .b l0⟩]⟩) (by kernel_rfl) allP_nil ?_
    refine W_seq ?_
    refine W_reg hT (ftL_cons (k := 0) (f := 11) (F := up_ct) up_h hI ftL_nil) [] [] [0, 3] [0] (s' := ⟨[(0, .c (.wh 0)), (3, .c (.s (.b true)))], [], [⟨(.ro false), 5, 1, l0.length, .b l0⟩]⟩) (by kernel_rfl) allP_nil ?_
    refine W_seq ?_
    obtain ⟨r6_1, g1, h⟩ := bind_some' h
    refine W_reg hT (ftL_cons (k := 1) (f := 21) (F := (cut_ct n r6_1)) (cut_ok n r6_1) (fun _ _ => True.intro) ftL_nil) [] [] [0, 3] [1] (s' := ⟨[(0, .c (.wh 0)), (3, .c (.s (.b true)))], [], [⟨(.ro false), 5, 1, r6_1.2, .b r6_1.1⟩]⟩) (by kernel_rfl) (allP_cons.2 ⟨g1, allP_nil⟩) ?_
    refine W_seq ?_
    obtain ⟨g2, h⟩ := gd_some h
    obtain ⟨r12_1, g3, h⟩ := bind_some' h
    obtain ⟨r14_1, g4, h⟩ := bind_some' h
    refine W_regD hT (ftL_cons (k := 3) (f := 22) (F := sum_ct) sum_h hI (ftL_cons (k := 5) (f := 23) (F := (made_ct n r12_1)) (made_ok n r12_1) (fun _ _ => True.intro) (ftL_cons (k := 7) (f := 24) (F := (refsum_ct n r14_1)) (refsum_ok n r14_1) (fun _ _ => True.intro) ftL_nil))) (by kernel_rfl) 9 [] [(8, false), (11, false), (15, false)] [] [2] [] (s' := ⟨[(2, .c (.s (.b ((digest consts begin8 r6_1.1) == r14_1))))], [], []⟩) (by kernel_rfl) (by kernel_rfl) (allP_cons.2 ⟨g2, (allP_cons.2 ⟨g3, (allP_cons.2 ⟨g4, allP_nil⟩)⟩)⟩) ?_
    refine W_co [] [2] [] (s' := (shasums_R ((digest consts begin8 r6_1.1) == r14_1))) (by kernel_rfl) (W_ret ?_)
    exact ⟨.inl rfl, by cases h; rfl⟩
  · rintro e s' ⟨he, rfl⟩
    refine ⟨he, fun a' w' hr => ?_⟩
    exact retS_ok tabO_shc hr (rs := [.tmp 2]) rfl (objs := []) (by kernel_rfl)
end Go.Proofs.YtmdijgmnopidpaaDoor
