import Derived.Test.YtpinmaodpfoinaaSxX
import Derived.Test.YtpinmaodpfoinaaProg
import Derived.Test.YtpinmaodpfoinaaNt
set_option linter.unusedVariables false
set_option linter.unusedSimpArgs false
namespace Go.Proofs.Ytpinmaodpfoinaa
open Go.RowKit Go.Ch Go.Sx

def tabL_ntb : List (TypeId × Ti) := [(3, ⟨.int .i64, 1, 8, true, some [.int .i64]⟩),
  (5, ⟨.int .u8, 1, 1, true, some [.int .u8]⟩),
  (23, ⟨.sl 45, 1, 24, false, some [.nils]⟩),
  (27, ⟨.ifc, 1, 16, true, some [.ifc]⟩),
  (30, ⟨.int .i64, 1, 8, true, some [.int .i64]⟩),
  (45, ⟨.int .u32, 1, 4, true, some [.int .u32]⟩),
  (48, ⟨.sl 5, 1, 24, false, some [.nils]⟩),
  (61, ⟨.int .u64, 1, 8, true, some [.int .u64]⟩)]
def tab_ntb : Tab := fun t => (tabL_ntb).lookup t
theorem tabE_ntb : (tabL_ntb.map fun p => tiOf Try.prog p.1) = tabL_ntb.map fun p => some p.2 := by kernel_rfl
theorem tabO_ntb : TabOk Try.prog tab_ntb := tab_of tabE_ntb

def pSub (n : Nat) (a0 : List UInt32) (a1 : List UInt32) : Option (List UInt32 × Nat × Option Int) :=
  (pmay n a0 a1).bind fun r10 =>
  bif (!r10.2.2.2.2) then
    some ([], 0, (some 4))
  else
    (pCmp n r10.1 r10.2.2.1).bind fun r21 =>
    bif (decide (r21 < (0 : Int))) then
      some ([], 0, (some 1))
    else
      (pless n r10.1 r10.2.2.1).bind fun r26 =>
      some (r26.1, r26.2, none)
def pWrite_j1 (n : Nat) (a0 : List UInt32) (a1 : Int) (r10 : List UInt32 × Nat) (i27_1 : Int) (k_l1 : (List UInt8) → Int → Option (List UInt8 × Nat × Option Int)) (l6_7 : List UInt8) : Option (List UInt8 × Nat × Option Int) :=
  gd (okI .i64 (i27_1 + 1)) <|
  k_l1 l6_7 (i27_1 + 1)
def pWrite_l1 (n : Nat) (a0 : List UInt32) (a1 : Int) (r10 : List UInt32 × Nat) : Nat → List UInt8 → Int → Option (List UInt8 × Nat × Option Int)
  | 0, _, _ => none
  | fu_l1 + 1, l6_5, i27_1 =>
    bif (decide (i27_1 < (4 * ((r10.2 : Nat) : Int)))) then
      gd ((4 : Int) ≠ 0) <|
      gd (okI .i64 (Int.tdiv i27_1 4)) <|
      gd (0 ≤ (Int.tdiv i27_1 4)) <|
      gd ((Int.tdiv i27_1 4) < ((r10.2 : Nat) : Int)) <|
      gd ((4 : Int) ≠ 0) <|
      gd (okI .i64 (8 * (Int.tmod i27_1 4))) <|
      gd (0 ≤ (8 * (Int.tmod i27_1 4))) <|
      bif (decide (i27_1 < a1)) then
        gd (okI .i64 (a1 - 1)) <|
        gd (okI .i64 ((a1 - 1) - i27_1)) <|
        gd (0 ≤ ((a1 - 1) - i27_1)) <|
        gd (((a1 - 1) - i27_1) < ((a1.toNat : Nat) : Int)) <|
        pWrite_j1 n a0 a1 r10 i27_1 (pWrite_l1 n a0 a1 r10 fu_l1) (l6_5.set (((a1 - 1) - i27_1).toNat) ((shr32 (((a0.drop 0).take r10.2).getD ((Int.tdiv i27_1 4).toNat) 0) (8 * (Int.tmod i27_1 4))).toUInt8))
      else
        bif (((shr32 (((a0.drop 0).take r10.2).getD ((Int.tdiv i27_1 4).toNat) 0) (8 * (Int.tmod i27_1 4))).toUInt8) != 0) then
          some ([], 0, (some 1))
        else
          pWrite_j1 n a0 a1 r10 i27_1 (pWrite_l1 n a0 a1 r10 fu_l1) l6_5
    else
      some (l6_5, a1.toNat, none)
def pWrite (n : Nat) (a0 : List UInt32) (a1 : Int) : Option (List UInt8 × Nat × Option Int) :=
  (ptrim n a0).bind fun r10 =>
  bif (decide ((64 : Int) < ((r10.2 : Nat) : Int))) then
    some ([], 0, (some 4))
  else
    bif (decide (a1 < (0 : Int))) then
      some ([], 0, (some 1))
    else
      bif (decide ((256 : Int) < a1)) then
        some ([], 0, (some 1))
      else
        gd (0 ≤ a1) <|
        gd (a1 = a1) <|
        gd (rmB a1.toNat 1) <|
        gd (okI .i64 (4 * ((r10.2 : Nat) : Int))) <|
        pWrite_l1 n a0 a1 r10 n (List.replicate a1.toNat 0) 0
def pMul (n : Nat) (a0 : List UInt32) (a1 : List UInt32) : Option (List UInt32 × Nat × Option Int) :=
  (pmay n a0 a1).bind fun r10 =>
  bif (!r10.2.2.2.2) then
    some ([], 0, (some 4))
  else
    (ptimes n r10.1 r10.2.2.1).bind fun r19 =>
    some (r19.1, r19.2, none)
def pAdd_l1 (n : Nat) (r13 : List UInt32 × Nat × List UInt32 × Nat × Bool) : Nat → List UInt32 → UInt64 → Int → Option (List UInt32 × Nat × Option Int)
  | 0, _, _, _ => none
  | fu_l1 + 1, w7_1, y8_1, i29_1 =>
    bif (decide (i29_1 < ((((if ((r13.2.2.2.1 : Nat) : Int) > ((r13.2.1 : Nat) : Int) then ((r13.2.2.2.1 : Nat) : Int) else ((r13.2.1 : Nat) : Int)) + 1).toNat : Nat) : Int))) then
      (pat n r13.1 i29_1).bind fun r35_2 =>
      (pat n r13.2.2.1 i29_1).bind fun r38_2 =>
      gd (0 ≤ (32 : Int)) <|
      gd (0 ≤ i29_1) <|
      gd (i29_1 < ((((if ((r13.2.2.2.1 : Nat) : Int) > ((r13.2.1 : Nat) : Int) then ((r13.2.2.2.1 : Nat) : Int) else ((r13.2.1 : Nat) : Int)) + 1).toNat : Nat) : Int)) <|
      gd (okI .i64 (i29_1 + 1)) <|
      (pAdd_l1 n r13 fu_l1) (w7_1.set i29_1.toNat ((y8_1 + (r35_2 + r38_2)).toUInt32)) (shr64 (y8_1 + (r35_2 + r38_2)) 32) (i29_1 + 1)
    else
      (ptrim n w7_1).bind fun r50_1 =>
      some (((w7_1.drop 0).take r50_1.2), r50_1.2, none)
def pAdd (n : Nat) (a0 : List UInt32) (a1 : List UInt32) : Option (List UInt32 × Nat × Option Int) :=
  (pmay n a0 a1).bind fun r13 =>
  bif (!r13.2.2.2.2) then
    some ([], 0, (some 4))
  else
    gd (okI .i64 ((if ((r13.2.2.2.1 : Nat) : Int) > ((r13.2.1 : Nat) : Int) then ((r13.2.2.2.1 : Nat) : Int) else ((r13.2.1 : Nat) : Int)) + 1)) <|
    gd (0 ≤ ((if ((r13.2.2.2.1 : Nat) : Int) > ((r13.2.1 : Nat) : Int) then ((r13.2.2.2.1 : Nat) : Int) else ((r13.2.1 : Nat) : Int)) + 1)) <|
    gd (((if ((r13.2.2.2.1 : Nat) : Int) > ((r13.2.1 : Nat) : Int) then ((r13.2.2.2.1 : Nat) : Int) else ((r13.2.1 : Nat) : Int)) + 1) = ((if ((r13.2.2.2.1 : Nat) : Int) > ((r13.2.1 : Nat) : Int) then ((r13.2.2.2.1 : Nat) : Int) else ((r13.2.1 : Nat) : Int)) + 1)) <|
    gd (rmB (((if ((r13.2.2.2.1 : Nat) : Int) > ((r13.2.1 : Nat) : Int) then ((r13.2.2.2.1 : Nat) : Int) else ((r13.2.1 : Nat) : Int)) + 1).toNat) 4) <|
    pAdd_l1 n r13 n (List.replicate (((if ((r13.2.2.2.1 : Nat) : Int) > ((r13.2.1 : Nat) : Int) then ((r13.2.2.2.1 : Nat) : Int) else ((r13.2.1 : Nat) : Int)) + 1).toNat) 0) 0 0
def lone (n : Nat) (a0 : List UInt32) (a1 : UInt32) : Option (Bool) :=
  bif (((a0.length : Nat) : Int) == 1) then
    gd (0 ≤ (0 : Int)) <|
    gd ((0 : Int) < ((a0.length : Nat) : Int)) <|
    some ((a0.getD 0 0) == a1)
  else
    some false
def lup (n : Nat) : Option (Bool) :=
  (pDiv n [1000] [7]).bind fun r17 =>
  (pExp n [3] [5] [7]).bind fun r25 =>
  (pInv n [3] [7]).bind fun r31 =>
  (pInv n [2] [4]).bind fun r37 =>
  (pSub n [1] [2]).bind fun r43 =>
  (pWrite n [256] 1).bind fun r48 =>
  bif ((r17.2.2.2.2).isNone) then
    bif ((r25.2).isNone) then
      bif ((r31.2).isNone) then
        (lone n r17.1 142).bind fun r63 =>
        bif r63 then
          (lone n r17.2.2.1 6).bind fun r67 =>
          bif r67 then
            (lone n r25.1 5).bind fun r71 =>
            bif r71 then
              (lone n r31.1 5).bind fun r75 =>
              bif r75 then
                gd (¬((r37.2 : Option Int) = none ∧ ((some 13) : Option Int) = none)) <|
                bif (r37.2 == (some 13)) then
                  gd (¬((r43.2.2 : Option Int) = none ∧ ((some 1) : Option Int) = none)) <|
                  bif (r43.2.2 == (some 1)) then
                    gd (¬((r48.2.2 : Option Int) = none ∧ ((some 1) : Option Int) = none)) <|
                    some (r48.2.2 == (some 1))
                  else
                    some false
                else
                  some false
              else
                some false
            else
              some false
          else
            some false
        else
          some false
      else
        some false
    else
      some false
  else
    some false

def pSub_R (r : List UInt32 × Nat × Option Int) : S := ⟨[(4, .c (.wh 0)), (5, .c (.s (.er 30 .i64 r.2.2)))], [], [⟨(.ro true), 45, 1, r.2.1, .w r.1⟩]⟩
def pSub_ct (n : Nat) (r : List UInt32 × Nat × Option Int) : Ct := fun args H => match args with
  | [x0, x1] => (match aW H x0 with | some l0 => (match aW H x1 with | some l1 => some ([pSub n l0 l1 = some r], shA H.length (.t [.c (.wh 0), .c (.s (.er 30 .i64 r.2.2))]), shH H.length [⟨(.ro true), 45, 1, r.2.1, .w r.1⟩]) | none => none) | none => none)
  | _ => none
theorem pSub_ok (n : Nat) (r : List UInt32 × Nat × Option Int) : FnOk Try.prog Tr 27 (pSub_ct n r) := by
  refine ⟨fun args H g av objs hF hg ρ w vals hG hp ha => ?_, _, Try.func27, by kernel_rfl, by kernel_rfl⟩
  obtain ⟨x0, x1, rfl⟩ : ∃ x0 x1, args = [x0, x1] := by
    unfold pSub_ct at hF; split at hF
    · exact ⟨_, _, rfl⟩
    · cases hF
  cases e0 : aW H x0 with
  | none => simp only [pSub_ct, e0, reduceCtorEq] at hF
  | some l0 =>
  cases e1 : aW H x1 with
  | none => simp only [pSub_ct, e0, e1, reduceCtorEq] at hF
  | some l1 =>
  simp only [pSub_ct, e0, e1, Option.some.injEq, Prod.mk.injEq] at hF
  obtain ⟨rfl, rfl, rfl⟩ := hF
  obtain ⟨v0, vals, rfl, k0, ha⟩ := F2.inv ha
  obtain ⟨v1, vals, rfl, k1, ha⟩ := F2.inv ha
  obtain rfl := F2.inv0 ha
  have hI : ∀ w', Kp (noB (fun _ => undef)) w w' → Tr w' := fun _ hk => Tr.keep hk.below hG
  have h : pSub n l0 l1 = some r := hg
  obtain ⟨p0, s0, o0⟩ := aW_ok hp e0 (k0) 45
  obtain ⟨p1, s1, o1⟩ := aW_ok hp e1 (k1) 45
  have hR0 := rel0 (gv := (fun _ => undef)) (n := 27) (w := w) (args := [.c (.wh 0), .c (.wh 1)]) (H := [⟨.ro false, 45, 1, l0.length, .w l0⟩, ⟨.ro false, 45, 1, l1.length, .w l1⟩]) (gl := []) (hpL (ps := [p0, p1]) (F2.cons o0 (F2.cons o1 F2.nil))) (allRo_ok rfl) (F2.cons s0 (F2.cons s1 F2.nil)) GlR.nil (by simp)
  clear ha hp hg k0 k1 e0 e1
  refine calls_W Try.func27 rfl rfl hR0 (Q := fun e s => (e = .ret ∨ e = .normal) ∧ s = pSub_R r) ?_ ?_
  · clear hR0
    unfold pSub at h
    have hT := tabO_ntb
    refine W_seq ?_
    refine W_reg hT ftL_nil [] [] [0, 1] [0, 1] (s' := ⟨[(0, .c (.wh 0)), (1, .c (.wh 1))], [], [⟨(.ro false), 45, 1, l0.length, .w l0⟩, ⟨(.ro false), 45, 1, l1.length, .w l1⟩]⟩) (by kernel_rfl) allP_nil ?_
    refine W_seq ?_
    obtain ⟨r10, g1, h⟩ := bind_some' h
    refine W_reg hT (ftL_cons (k := 2) (f := 34) (F := (pmay_ct n r10)) (pmay_ok n r10) (fun _ _ => True.intro) ftL_nil) [] [] [0, 1, 6] [2, 3] (s' := ⟨[(0, .c (.wh 0)), (1, .c (.wh 1)), (6, .c (.s (.b r10.2.2.2.2)))], [], [⟨(.ro false), 45, 1, r10.2.1, .w r10.1⟩, ⟨(.ro false), 45, 1, r10.2.2.2.1, .w r10.2.2.1⟩]⟩) (by kernel_rfl) (allP_cons.2 ⟨g1, allP_nil⟩) ?_
    refine W_seq ?_
    refine W_block ?_
    refine W_seq ?_
    refine W_reg hT ftL_nil [] [] [0, 1, 14] [0, 1] (s' := ⟨[(0, .c (.wh 0)), (1, .c (.wh 1)), (14, .c (.s (.b (!r10.2.2.2.2))))], [], [⟨(.ro false), 45, 1, r10.2.1, .w r10.1⟩, ⟨(.ro false), 45, 1, r10.2.2.2.1, .w r10.2.2.1⟩]⟩) (by kernel_rfl) allP_nil ?_
    refine W_cond (b := (!r10.2.2.2.2)) (by kernel_rfl) (fun g5 => ?_) (fun g5 => ?_)
    · replace h := bif_t h g5
      refine W_seq ?_
      refine W_reg hT ftL_nil [] [] [4, 5] [] (s' := ⟨[(4, .c (.nils)), (5, .c (.s (.er 30 .i64 (some 4))))], [], []⟩) (by kernel_rfl) allP_nil ?_
      refine W_co [.emp 4 45 1 (.w []) true] [4, 5] [0] (s' := (pSub_R ([], 0, (some 4)))) (by kernel_rfl) (W_ret ?_)
      exact ⟨.inl rfl, by cases h; rfl⟩
    · replace h := bif_f h g5
      refine W_seq ?_
      obtain ⟨r21, g2, h⟩ := bind_some' h
      refine W_reg hT (ftL_cons (k := 2) (f := 31) (F := (pCmp_ct n r21)) (pCmp_ok n r21) (fun _ _ => True.intro) ftL_nil) [] [] [0, 1, 18] [0, 1] (s' := ⟨[(0, .c (.wh 0)), (1, .c (.wh 1)), (18, .c (.s (.b (decide (r21 < (0 : Int))))))], [], [⟨(.ro false), 45, 1, r10.2.1, .w r10.1⟩, ⟨(.ro false), 45, 1, r10.2.2.2.1, .w r10.2.2.1⟩]⟩) (by kernel_rfl) (allP_cons.2 ⟨g2, allP_nil⟩) ?_
      refine W_cond (b := (decide (r21 < (0 : Int)))) (by kernel_rfl) (fun g4 => ?_) (fun g4 => ?_)
      · replace h := bif_t h g4
        refine W_seq ?_
        refine W_reg hT ftL_nil [] [] [4, 5] [] (s' := ⟨[(4, .c (.nils)), (5, .c (.s (.er 30 .i64 (some 1))))], [], []⟩) (by kernel_rfl) allP_nil ?_
        refine W_co [.emp 4 45 1 (.w []) true] [4, 5] [0] (s' := (pSub_R ([], 0, (some 1)))) (by kernel_rfl) (W_ret ?_)
        exact ⟨.inl rfl, by cases h; rfl⟩
      · replace h := bif_f h g4
        refine W_co [] [0, 1] [0, 1] (s' := ⟨[(0, .c (.wh 0)), (1, .c (.wh 1))], [], [⟨(.ro false), 45, 1, r10.2.1, .w r10.1⟩, ⟨(.ro false), 45, 1, r10.2.2.2.1, .w r10.2.2.1⟩]⟩) (by kernel_rfl) (W_skip ?_)
        refine W_seq ?_
        obtain ⟨r26, g3, h⟩ := bind_some' h
        refine W_reg hT (ftL_cons (k := 2) (f := 45) (F := (pless_ct n r26)) (pless_ok n r26) (fun _ _ => True.intro) ftL_nil) [] [] [4, 5] [2] (s' := ⟨[(4, .c (.wh 0)), (5, .c (.s (.v .nilIface)))], [], [⟨(.ro true), 45, 1, r26.2, .w r26.1⟩]⟩) (by kernel_rfl) (allP_cons.2 ⟨g3, allP_nil⟩) ?_
        refine W_co [.er 5 30 .i64] [4, 5] [0] (s' := (pSub_R (r26.1, r26.2, none))) (by kernel_rfl) (W_ret ?_)
        exact ⟨.inl rfl, by cases h; rfl⟩
  · rintro e s' ⟨he, rfl⟩
    refine ⟨he, fun a' w' hr => ?_⟩
    exact retS_ok tabO_ntb hr (rs := [.tmp 4, .tmp 5]) rfl (objs := [0]) (by kernel_rfl)
def pWrite_j1_E (a0 : List UInt32) (a1 : Int) (r10 : List UInt32 × Nat) (i27_1 : Int) (l6_7 : List UInt8) : S := ⟨[(0, .c (.wh 0)), (1, .c (.s (.k .i64 a1))), (6, .c (.wh 1)), (26, .c (.s (.k .i64 (4 * ((r10.2 : Nat) : Int))))), (27, .c (.s (.k .i64 i27_1)))], [], [⟨(.ro false), 45, 1, r10.2, .w ((a0.drop 0).take r10.2)⟩, ⟨.row, 5, 1, a1.toNat, .b l6_7⟩]⟩
def pWrite_j1_P (n : Nat) (a0 : List UInt32) (a1 : Int) (r10 : List UInt32 × Nat) (i27_1 : Int) (k_l1 : (List UInt8) → Int → Option (List UInt8 × Nat × Option Int)) (r : List UInt8 × Nat × Option Int) : S → Prop := fun s => ∃ (l6_7 : List UInt8), s = pWrite_j1_E a0 a1 r10 i27_1 l6_7 ∧ pWrite_j1 n a0 a1 r10 i27_1 k_l1 l6_7 = some r
theorem pWrite_j1_M {n : Nat} {a0 : List UInt32} {a1 : Int} {r10 : List UInt32 × Nat} {i27_1 : Int} {k_l1 : (List UInt8) → Int → Option (List UInt8 × Nat × Option Int)} {l6_7 : List UInt8} {r : List UInt8 × Nat × Option Int} (h : pWrite_j1 n a0 a1 r10 i27_1 k_l1 l6_7 = some r) : pWrite_j1_P n a0 a1 r10 i27_1 k_l1 r (pWrite_j1_E a0 a1 r10 i27_1 l6_7) := ⟨l6_7, rfl, h⟩
def pWrite_l1_E (a0 : List UInt32) (a1 : Int) (r10 : List UInt32 × Nat) (l6_5 : List UInt8) (i27_1 : Int) : S := ⟨[(0, .c (.wh 0)), (1, .c (.s (.k .i64 a1))), (6, .c (.wh 1)), (26, .c (.s (.k .i64 (4 * ((r10.2 : Nat) : Int))))), (27, .c (.s (.k .i64 i27_1)))], [], [⟨(.ro false), 45, 1, r10.2, .w ((a0.drop 0).take r10.2)⟩, ⟨.row, 5, 1, a1.toNat, .b l6_5⟩]⟩
def pWrite_l1_P (n : Nat) (a0 : List UInt32) (a1 : Int) (r10 : List UInt32 × Nat) (r : List UInt8 × Nat × Option Int) (fu : Nat) : S → Prop := fun s => ∃ (l6_5 : List UInt8), ∃ (i27_1 : Int), s = pWrite_l1_E a0 a1 r10 l6_5 i27_1 ∧ pWrite_l1 n a0 a1 r10 fu l6_5 i27_1 = some r
theorem pWrite_l1_M {n : Nat} {a0 : List UInt32} {a1 : Int} {r10 : List UInt32 × Nat} {l6_5 : List UInt8} {i27_1 : Int} {r : List UInt8 × Nat × Option Int} {fu : Nat} (h : pWrite_l1 n a0 a1 r10 fu l6_5 i27_1 = some r) : pWrite_l1_P n a0 a1 r10 r fu (pWrite_l1_E a0 a1 r10 l6_5 i27_1) := ⟨l6_5, i27_1, rfl, h⟩
def pWrite_R (r : List UInt8 × Nat × Option Int) : S := ⟨[(4, .c (.wh 0)), (5, .c (.s (.er 30 .i64 r.2.2)))], [], [⟨.row, 5, 1, r.2.1, .b r.1⟩]⟩
def pWrite_ct (n : Nat) (r : List UInt8 × Nat × Option Int) : Ct := fun args H => match args with
  | [x0, x1] => (match aW H x0 with | some l0 => (match aI x1 with | some l1 => some ([pWrite n l0 l1 = some r], shA H.length (.t [.c (.wh 0), .c (.s (.er 30 .i64 r.2.2))]), shH H.length [⟨.row, 5, 1, r.2.1, .b r.1⟩]) | none => none) | none => none)
  | _ => none
theorem pWrite_ok (n : Nat) (r : List UInt8 × Nat × Option Int) : FnOk Try.prog Tr 32 (pWrite_ct n r) := by
  refine ⟨fun args H g av objs hF hg ρ w vals hG hp ha => ?_, _, Try.func32, by kernel_rfl, by kernel_rfl⟩
  obtain ⟨x0, x1, rfl⟩ : ∃ x0 x1, args = [x0, x1] := by
    unfold pWrite_ct at hF; split at hF
    · exact ⟨_, _, rfl⟩
    · cases hF
  cases e0 : aW H x0 with
  | none => simp only [pWrite_ct, e0, reduceCtorEq] at hF
  | some l0 =>
  cases e1 : aI x1 with
  | none => simp only [pWrite_ct, e0, e1, reduceCtorEq] at hF
  | some l1 =>
  simp only [pWrite_ct, e0, e1, Option.some.injEq, Prod.mk.injEq] at hF
  obtain ⟨rfl, rfl, rfl⟩ := hF
  obtain ⟨v0, vals, rfl, k0, ha⟩ := F2.inv ha
  obtain ⟨v1, vals, rfl, k1, ha⟩ := F2.inv ha
  obtain rfl := F2.inv0 ha
  have hI : ∀ w', Kp (noB (fun _ => undef)) w w' → Tr w' := fun _ hk => Tr.keep hk.below hG
  have h : pWrite n l0 l1 = some r := hg
  obtain ⟨p0, s0, o0⟩ := aW_ok hp e0 (k0) 45
  have s1 := aI_ok e1 (k1)
  have hR0 := rel0 (gv := (fun _ => undef)) (n := 55) (w := w) (args := [.c (.wh 0), .c (.s (.k .i64 l1))]) (H := [⟨.ro false, 45, 1, l0.length, .w l0⟩]) (gl := []) (hpL (ps := [p0]) (F2.cons o0 F2.nil)) (allRo_ok rfl) (F2.cons s0 (F2.cons s1 F2.nil)) GlR.nil (by simp)
  clear ha hp hg k0 k1 e0 e1
  refine calls_W Try.func32 rfl rfl hR0 (Q := fun e s => (e = .ret ∨ e = .normal) ∧ s = pWrite_R r) ?_ ?_
  · clear hR0
    unfold pWrite at h
    have hT := tabO_ntb
    refine W_seq ?_
    refine W_reg hT ftL_nil [] [] [0, 1] [0] (s' := ⟨[(0, .c (.wh 0)), (1, .c (.s (.k .i64 l1)))], [], [⟨(.ro false), 45, 1, l0.length, .w l0⟩]⟩) (by kernel_rfl) allP_nil ?_
    refine W_seq ?_
    obtain ⟨r10, g1, h⟩ := bind_some' h
    refine W_reg hT (ftL_cons (k := 1) (f := 44) (F := (ptrim_ct n r10)) (ptrim_ok n r10) (fun _ _ => True.intro) ftL_nil) [] [] [0, 1] [0] (s' := ⟨[(0, .c (.sl 0 0 r10.2)), (1, .c (.s (.k .i64 l1)))], [], [⟨(.ro false), 45, 1, l0.length, .w l0⟩]⟩) (by kernel_rfl) (allP_cons.2 ⟨g1, allP_nil⟩) ?_
    refine W_seq ?_
    refine W_seq ?_
    refine W_reg hT ftL_nil [] [] [0, 1, 13] [0] (s' := ⟨[(0, .c (.sl 0 0 r10.2)), (1, .c (.s (.k .i64 l1))), (13, .c (.s (.b (decide ((64 : Int) < ((r10.2 : Nat) : Int))))))], [], [⟨(.ro false), 45, 1, l0.length, .w l0⟩]⟩) (by kernel_rfl) allP_nil ?_
    refine W_cond (b := (decide ((64 : Int) < ((r10.2 : Nat) : Int)))) (by kernel_rfl) (fun g23 => ?_) (fun g23 => ?_)
    · replace h := bif_t h g23
      refine W_seq ?_
      refine W_reg hT ftL_nil [] [] [4, 5] [] (s' := ⟨[(4, .c (.nils)), (5, .c (.s (.er 30 .i64 (some 4))))], [], []⟩) (by kernel_rfl) allP_nil ?_
      refine W_co [.nil 4 5 1 (.b [])] [4, 5] [0] (s' := (pWrite_R ([], 0, (some 4)))) (by kernel_rfl) (W_ret ?_)
      exact ⟨.inl rfl, by cases h; rfl⟩
    · replace h := bif_f h g23
      refine W_co [] [0, 1] [0] (s' := ⟨[(0, .c (.sl 0 0 r10.2)), (1, .c (.s (.k .i64 l1)))], [], [⟨(.ro false), 45, 1, l0.length, .w l0⟩]⟩) (by kernel_rfl) (W_skip ?_)
      refine W_seq ?_
      refine W_seq ?_
      rcases Bool.eq_false_or_eq_true (decide (l1 < (0 : Int))) with g2 | g2
      · replace h := bif_t h g2
        refine W_reg hT ftL_nil [(2, true)] [] [0, 1, 20] [0] (s' := ⟨[(0, .c (.sl 0 0 r10.2)), (1, .c (.s (.k .i64 l1))), (20, .c (.s (.b true)))], [], [⟨(.ro false), 45, 1, l0.length, .w l0⟩]⟩) (by kernel_rfl) (allP_cons.2 ⟨g2, allP_nil⟩) ?_
        refine W_cond (b := true) (by kernel_rfl) (fun _ => ?_) (fun hb => by cases hb)
        refine W_seq ?_
        refine W_reg hT ftL_nil [] [] [4, 5] [] (s' := ⟨[(4, .c (.nils)), (5, .c (.s (.er 30 .i64 (some 1))))], [], []⟩) (by kernel_rfl) allP_nil ?_
        refine W_co [.nil 4 5 1 (.b [])] [4, 5] [0] (s' := (pWrite_R ([], 0, (some 1)))) (by kernel_rfl) (W_ret ?_)
        exact ⟨.inl rfl, by cases h; rfl⟩
      · replace h := bif_f h g2
        refine W_reg hT ftL_nil [(2, false)] [] [0, 1, 20] [0] (s' := ⟨[(0, .c (.sl 0 0 r10.2)), (1, .c (.s (.k .i64 l1))), (20, .c (.s (.b (decide ((256 : Int) < l1)))))], [], [⟨(.ro false), 45, 1, l0.length, .w l0⟩]⟩) (by kernel_rfl) (allP_cons.2 ⟨g2, allP_nil⟩) ?_
        refine W_cond (b := (decide ((256 : Int) < l1))) (by kernel_rfl) (fun g22 => ?_) (fun g22 => ?_)
        · replace h := bif_t h g22
          refine W_seq ?_
          refine W_reg hT ftL_nil [] [] [4, 5] [] (s' := ⟨[(4, .c (.nils)), (5, .c (.s (.er 30 .i64 (some 1))))], [], []⟩) (by kernel_rfl) allP_nil ?_
          refine W_co [.nil 4 5 1 (.b [])] [4, 5] [0] (s' := (pWrite_R ([], 0, (some 1)))) (by kernel_rfl) (W_ret ?_)
          exact ⟨.inl rfl, by cases h; rfl⟩
        · replace h := bif_f h g22
          refine W_co [] [0, 1] [0] (s' := ⟨[(0, .c (.sl 0 0 r10.2)), (1, .c (.s (.k .i64 l1)))], [], [⟨(.ro false), 45, 1, l0.length, .w l0⟩]⟩) (by kernel_rfl) (W_skip ?_)
          refine W_seq ?_
          obtain ⟨g3, h⟩ := gd_some h
          obtain ⟨g4, h⟩ := gd_some h
          obtain ⟨g5, h⟩ := gd_some h
          refine W_reg hT ftL_nil [] [] [0, 1, 6] [0, 1] (s' := ⟨[(0, .c (.sl 0 0 r10.2)), (1, .c (.s (.k .i64 l1))), (6, .c (.wh 1))], [], [⟨(.ro false), 45, 1, l0.length, .w l0⟩, ⟨.row, 5, 1, l1.toNat, .b (List.replicate l1.toNat 0)⟩]⟩) (by kernel_rfl) (allP_cons.2 ⟨g3, (allP_cons.2 ⟨g4, (allP_cons.2 ⟨g5, allP_nil⟩)⟩)⟩) ?_
          refine W_seq ?_
          refine W_seq ?_
          obtain ⟨g6, h⟩ := gd_some h
          refine W_reg hT ftL_nil [] [] [0, 1, 6, 26, 27] [0, 1] (s' := ⟨[(0, .c (.sl 0 0 r10.2)), (1, .c (.s (.k .i64 l1))), (6, .c (.wh 1)), (26, .c (.s (.k .i64 (4 * ((r10.2 : Nat) : Int))))), (27, .c (.s (.k .i64 0)))], [], [⟨(.ro false), 45, 1, l0.length, .w l0⟩, ⟨.row, 5, 1, l1.toNat, .b (List.replicate l1.toNat 0)⟩]⟩) (by kernel_rfl) (allP_cons.2 ⟨g6, allP_nil⟩) ?_
          refine W_block ?_
          refine W_co [.vw 0 false] [0, 1, 6, 26, 27] [2, 1] (s' := (pWrite_l1_E l0 l1 r10 (List.replicate l1.toNat 0) 0)) (by kernel_rfl) (W_lp ((pWrite_l1_P n l0 l1 r10 r)) n (pWrite_l1_M h) ?_)
          rintro fu_l1 _ ⟨l6_5, i27_1, rfl, h⟩
          cases fu_l1 with
          | zero => cases h
          | succ fu_l1 =>
            refine ⟨fu_l1, rfl, ?_⟩
            rw [pWrite_l1] at h
            refine W_seq ?_
            refine W_reg hT ftL_nil [] [] [0, 1, 6, 26, 27, 28] [0, 1] (s' := ⟨[(0, .c (.wh 0)), (1, .c (.s (.k .i64 l1))), (6, .c (.wh 1)), (26, .c (.s (.k .i64 (4 * ((r10.2 : Nat) : Int))))), (27, .c (.s (.k .i64 i27_1))), (28, .c (.s (.b (decide (i27_1 < (4 * ((r10.2 : Nat) : Int)))))))], [], [⟨(.ro false), 45, 1, r10.2, .w ((l0.drop 0).take r10.2)⟩, ⟨.row, 5, 1, l1.toNat, .b l6_5⟩]⟩) (by kernel_rfl) allP_nil ?_
            refine W_seq ?_
            refine W_cond (b := (decide (i27_1 < (4 * ((r10.2 : Nat) : Int))))) (by kernel_rfl) (fun g21 => ?_) (fun g21 => ?_)
            · replace h := bif_t h g21
              refine W_co [] [0, 1, 6, 26, 27] [0, 1] (s' := ⟨[(0, .c (.wh 0)), (1, .c (.s (.k .i64 l1))), (6, .c (.wh 1)), (26, .c (.s (.k .i64 (4 * ((r10.2 : Nat) : Int))))), (27, .c (.s (.k .i64 i27_1)))], [], [⟨(.ro false), 45, 1, r10.2, .w ((l0.drop 0).take r10.2)⟩, ⟨.row, 5, 1, l1.toNat, .b l6_5⟩]⟩) (by kernel_rfl) (W_skip ?_)
              refine W_join (pWrite_j1_P n l0 l1 r10 i27_1 (pWrite_l1 n l0 l1 r10 fu_l1) r) ?_ ?_
              · rintro _ ⟨l6_7, rfl, h⟩
                unfold pWrite_j1 at h
                obtain ⟨g7, h⟩ := gd_some h
                refine W_reg hT ftL_nil [] [] [0, 1, 6, 26, 27] [0, 1] (s' := (pWrite_l1_E l0 l1 r10 l6_7 (i27_1 + 1))) (by kernel_rfl) (allP_cons.2 ⟨g7, allP_nil⟩) ?_
                exact pWrite_l1_M h
              · refine W_block ?_
                refine W_seq ?_
                refine W_reg hT ftL_nil [] [] [0, 1, 6, 7, 26, 27] [0, 1] (s' := ⟨[(0, .c (.wh 0)), (1, .c (.s (.k .i64 l1))), (6, .c (.wh 1)), (7, .c (.s (.k .i64 i27_1))), (26, .c (.s (.k .i64 (4 * ((r10.2 : Nat) : Int))))), (27, .c (.s (.k .i64 i27_1)))], [], [⟨(.ro false), 45, 1, r10.2, .w ((l0.drop 0).take r10.2)⟩, ⟨.row, 5, 1, l1.toNat, .b l6_5⟩]⟩) (by kernel_rfl) allP_nil ?_
                refine W_seq ?_
                obtain ⟨g8, h⟩ := gd_some h
                obtain ⟨g9, h⟩ := gd_some h
                obtain ⟨g10, h⟩ := gd_some h
                obtain ⟨g11, h⟩ := gd_some h
                obtain ⟨g12, h⟩ := gd_some h
                obtain ⟨g13, h⟩ := gd_some h
                obtain ⟨g14, h⟩ := gd_some h
                refine W_reg hT ftL_nil [] [] [0, 1, 6, 7, 8, 26, 27] [0, 1] (s' := ⟨[(0, .c (.wh 0)), (1, .c (.s (.k .i64 l1))), (6, .c (.wh 1)), (7, .c (.s (.k .i64 i27_1))), (8, .c (.s (.u8 ((shr32 (((l0.drop 0).take r10.2).getD ((Int.tdiv i27_1 4).toNat) 0) (8 * (Int.tmod i27_1 4))).toUInt8)))), (26, .c (.s (.k .i64 (4 * ((r10.2 : Nat) : Int))))), (27, .c (.s (.k .i64 i27_1)))], [], [⟨(.ro false), 45, 1, r10.2, .w ((l0.drop 0).take r10.2)⟩, ⟨.row, 5, 1, l1.toNat, .b l6_5⟩]⟩) (by kernel_rfl) (allP_cons.2 ⟨g8, (allP_cons.2 ⟨g9, (allP_cons.2 ⟨g10, (allP_cons.2 ⟨g11, (allP_cons.2 ⟨g12, (allP_cons.2 ⟨g13, (allP_cons.2 ⟨g14, allP_nil⟩)⟩)⟩)⟩)⟩)⟩)⟩) ?_
                refine W_seq ?_
                refine W_reg hT ftL_nil [] [] [0, 1, 6, 7, 8, 26, 27, 42] [0, 1] (s' := ⟨[(0, .c (.wh 0)), (1, .c (.s (.k .i64 l1))), (6, .c (.wh 1)), (7, .c (.s (.k .i64 i27_1))), (8, .c (.s (.u8 ((shr32 (((l0.drop 0).take r10.2).getD ((Int.tdiv i27_1 4).toNat) 0) (8 * (Int.tmod i27_1 4))).toUInt8)))), (26, .c (.s (.k .i64 (4 * ((r10.2 : Nat) : Int))))), (27, .c (.s (.k .i64 i27_1))), (42, .c (.s (.b (decide (i27_1 < l1)))))], [], [⟨(.ro false), 45, 1, r10.2, .w ((l0.drop 0).take r10.2)⟩, ⟨.row, 5, 1, l1.toNat, .b l6_5⟩]⟩) (by kernel_rfl) allP_nil ?_
                refine W_cond (b := (decide (i27_1 < l1))) (by kernel_rfl) (fun g20 => ?_) (fun g20 => ?_)
                · replace h := bif_t h g20
                  obtain ⟨g15, h⟩ := gd_some h
                  obtain ⟨g16, h⟩ := gd_some h
                  obtain ⟨g17, h⟩ := gd_some h
                  obtain ⟨g18, h⟩ := gd_some h
                  refine W_reg hT ftL_nil [] [] [0, 1, 6, 26, 27] [0, 1] (s' := (pWrite_j1_E l0 l1 r10 i27_1 (l6_5.set (((l1 - 1) - i27_1).toNat) ((shr32 (((l0.drop 0).take r10.2).getD ((Int.tdiv i27_1 4).toNat) 0) (8 * (Int.tmod i27_1 4))).toUInt8)))) (by kernel_rfl) (allP_cons.2 ⟨g15, (allP_cons.2 ⟨g16, (allP_cons.2 ⟨g17, (allP_cons.2 ⟨g18, allP_nil⟩)⟩)⟩)⟩) ?_
                  exact pWrite_j1_M h
                · replace h := bif_f h g20
                  refine W_seq ?_
                  refine W_reg hT ftL_nil [] [] [0, 1, 6, 26, 27, 51] [0, 1] (s' := ⟨[(0, .c (.wh 0)), (1, .c (.s (.k .i64 l1))), (6, .c (.wh 1)), (26, .c (.s (.k .i64 (4 * ((r10.2 : Nat) : Int))))), (27, .c (.s (.k .i64 i27_1))), (51, .c (.s (.b (((shr32 (((l0.drop 0).take r10.2).getD ((Int.tdiv i27_1 4).toNat) 0) (8 * (Int.tmod i27_1 4))).toUInt8) != 0))))], [], [⟨(.ro false), 45, 1, r10.2, .w ((l0.drop 0).take r10.2)⟩, ⟨.row, 5, 1, l1.toNat, .b l6_5⟩]⟩) (by kernel_rfl) allP_nil ?_
                  refine W_cond (b := (((shr32 (((l0.drop 0).take r10.2).getD ((Int.tdiv i27_1 4).toNat) 0) (8 * (Int.tmod i27_1 4))).toUInt8) != 0)) (by kernel_rfl) (fun g19 => ?_) (fun g19 => ?_)
                  · replace h := bif_t h g19
                    refine W_seq ?_
                    refine W_reg hT ftL_nil [] [] [4, 5] [] (s' := ⟨[(4, .c (.nils)), (5, .c (.s (.er 30 .i64 (some 1))))], [], []⟩) (by kernel_rfl) allP_nil ?_
                    refine W_co [.nil 4 5 1 (.b [])] [4, 5] [0] (s' := (pWrite_R ([], 0, (some 1)))) (by kernel_rfl) (W_ret ?_)
                    exact ⟨.inl rfl, by cases h; rfl⟩
                  · replace h := bif_f h g19
                    refine W_co [] [0, 1, 6, 26, 27] [0, 1] (s' := (pWrite_j1_E l0 l1 r10 i27_1 l6_5)) (by kernel_rfl) (W_skip ?_)
                    exact pWrite_j1_M h
            · replace h := bif_f h g21
              refine W_co [] [6] [1] (s' := ⟨[(6, .c (.wh 0))], [], [⟨.row, 5, 1, l1.toNat, .b l6_5⟩]⟩) (by kernel_rfl) (W_exit ?_)
              refine W_seq ?_
              refine W_reg hT ftL_nil [] [] [4, 5] [0] (s' := ⟨[(4, .c (.wh 0)), (5, .c (.s (.v .nilIface)))], [], [⟨.row, 5, 1, l1.toNat, .b l6_5⟩]⟩) (by kernel_rfl) allP_nil ?_
              refine W_co [.er 5 30 .i64] [4, 5] [0] (s' := (pWrite_R (l6_5, l1.toNat, none))) (by kernel_rfl) (W_ret ?_)
              exact ⟨.inl rfl, by cases h; rfl⟩
  · rintro e s' ⟨he, rfl⟩
    refine ⟨he, fun a' w' hr => ?_⟩
    exact retS_ok tabO_ntb hr (rs := [.tmp 4, .tmp 5]) rfl (objs := [0]) (by kernel_rfl)
def pMul_R (r : List UInt32 × Nat × Option Int) : S := ⟨[(4, .c (.wh 0)), (5, .c (.s (.er 30 .i64 r.2.2)))], [], [⟨(.ro true), 45, 1, r.2.1, .w r.1⟩]⟩
def pMul_ct (n : Nat) (r : List UInt32 × Nat × Option Int) : Ct := fun args H => match args with
  | [x0, x1] => (match aW H x0 with | some l0 => (match aW H x1 with | some l1 => some ([pMul n l0 l1 = some r], shA H.length (.t [.c (.wh 0), .c (.s (.er 30 .i64 r.2.2))]), shH H.length [⟨(.ro true), 45, 1, r.2.1, .w r.1⟩]) | none => none) | none => none)
  | _ => none
theorem pMul_ok (n : Nat) (r : List UInt32 × Nat × Option Int) : FnOk Try.prog Tr 25 (pMul_ct n r) := by
  refine ⟨fun args H g av objs hF hg ρ w vals hG hp ha => ?_, _, Try.func25, by kernel_rfl, by kernel_rfl⟩
  obtain ⟨x0, x1, rfl⟩ : ∃ x0 x1, args = [x0, x1] := by
    unfold pMul_ct at hF; split at hF
    · exact ⟨_, _, rfl⟩
    · cases hF
  cases e0 : aW H x0 with
  | none => simp only [pMul_ct, e0, reduceCtorEq] at hF
  | some l0 =>
  cases e1 : aW H x1 with
  | none => simp only [pMul_ct, e0, e1, reduceCtorEq] at hF
  | some l1 =>
  simp only [pMul_ct, e0, e1, Option.some.injEq, Prod.mk.injEq] at hF
  obtain ⟨rfl, rfl, rfl⟩ := hF
  obtain ⟨v0, vals, rfl, k0, ha⟩ := F2.inv ha
  obtain ⟨v1, vals, rfl, k1, ha⟩ := F2.inv ha
  obtain rfl := F2.inv0 ha
  have hI : ∀ w', Kp (noB (fun _ => undef)) w w' → Tr w' := fun _ hk => Tr.keep hk.below hG
  have h : pMul n l0 l1 = some r := hg
  obtain ⟨p0, s0, o0⟩ := aW_ok hp e0 (k0) 45
  obtain ⟨p1, s1, o1⟩ := aW_ok hp e1 (k1) 45
  have hR0 := rel0 (gv := (fun _ => undef)) (n := 20) (w := w) (args := [.c (.wh 0), .c (.wh 1)]) (H := [⟨.ro false, 45, 1, l0.length, .w l0⟩, ⟨.ro false, 45, 1, l1.length, .w l1⟩]) (gl := []) (hpL (ps := [p0, p1]) (F2.cons o0 (F2.cons o1 F2.nil))) (allRo_ok rfl) (F2.cons s0 (F2.cons s1 F2.nil)) GlR.nil (by simp)
  clear ha hp hg k0 k1 e0 e1
  refine calls_W Try.func25 rfl rfl hR0 (Q := fun e s => (e = .ret ∨ e = .normal) ∧ s = pMul_R r) ?_ ?_
  · clear hR0
    unfold pMul at h
    have hT := tabO_ntb
    refine W_seq ?_
    refine W_reg hT ftL_nil [] [] [0, 1] [0, 1] (s' := ⟨[(0, .c (.wh 0)), (1, .c (.wh 1))], [], [⟨(.ro false), 45, 1, l0.length, .w l0⟩, ⟨(.ro false), 45, 1, l1.length, .w l1⟩]⟩) (by kernel_rfl) allP_nil ?_
    refine W_seq ?_
    obtain ⟨r10, g1, h⟩ := bind_some' h
    refine W_reg hT (ftL_cons (k := 2) (f := 34) (F := (pmay_ct n r10)) (pmay_ok n r10) (fun _ _ => True.intro) ftL_nil) [] [] [0, 1, 6] [2, 3] (s' := ⟨[(0, .c (.wh 0)), (1, .c (.wh 1)), (6, .c (.s (.b r10.2.2.2.2)))], [], [⟨(.ro false), 45, 1, r10.2.1, .w r10.1⟩, ⟨(.ro false), 45, 1, r10.2.2.2.1, .w r10.2.2.1⟩]⟩) (by kernel_rfl) (allP_cons.2 ⟨g1, allP_nil⟩) ?_
    refine W_seq ?_
    refine W_seq ?_
    refine W_reg hT ftL_nil [] [] [0, 1, 15] [0, 1] (s' := ⟨[(0, .c (.wh 0)), (1, .c (.wh 1)), (15, .c (.s (.b (!r10.2.2.2.2))))], [], [⟨(.ro false), 45, 1, r10.2.1, .w r10.1⟩, ⟨(.ro false), 45, 1, r10.2.2.2.1, .w r10.2.2.1⟩]⟩) (by kernel_rfl) allP_nil ?_
    refine W_cond (b := (!r10.2.2.2.2)) (by kernel_rfl) (fun g3 => ?_) (fun g3 => ?_)
    · replace h := bif_t h g3
      refine W_seq ?_
      refine W_reg hT ftL_nil [] [] [4, 5] [] (s' := ⟨[(4, .c (.nils)), (5, .c (.s (.er 30 .i64 (some 4))))], [], []⟩) (by kernel_rfl) allP_nil ?_
      refine W_co [.emp 4 45 1 (.w []) true] [4, 5] [0] (s' := (pMul_R ([], 0, (some 4)))) (by kernel_rfl) (W_ret ?_)
      exact ⟨.inl rfl, by cases h; rfl⟩
    · replace h := bif_f h g3
      refine W_co [] [0, 1] [0, 1] (s' := ⟨[(0, .c (.wh 0)), (1, .c (.wh 1))], [], [⟨(.ro false), 45, 1, r10.2.1, .w r10.1⟩, ⟨(.ro false), 45, 1, r10.2.2.2.1, .w r10.2.2.1⟩]⟩) (by kernel_rfl) (W_skip ?_)
      refine W_seq ?_
      obtain ⟨r19, g2, h⟩ := bind_some' h
      refine W_reg hT (ftL_cons (k := 2) (f := 42) (F := (ptimes_ct n r19)) (ptimes_ok n r19) (fun _ _ => True.intro) ftL_nil) [] [] [4, 5] [2] (s' := ⟨[(4, .c (.wh 0)), (5, .c (.s (.v .nilIface)))], [], [⟨(.ro true), 45, 1, r19.2, .w r19.1⟩]⟩) (by kernel_rfl) (allP_cons.2 ⟨g2, allP_nil⟩) ?_
      refine W_co [.er 5 30 .i64] [4, 5] [0] (s' := (pMul_R (r19.1, r19.2, none))) (by kernel_rfl) (W_ret ?_)
      exact ⟨.inl rfl, by cases h; rfl⟩
  · rintro e s' ⟨he, rfl⟩
    refine ⟨he, fun a' w' hr => ?_⟩
    exact retS_ok tabO_ntb hr (rs := [.tmp 4, .tmp 5]) rfl (objs := [0]) (by kernel_rfl)
def pAdd_l1_E (r13 : List UInt32 × Nat × List UInt32 × Nat × Bool) (w7_1 : List UInt32) (y8_1 : UInt64) (i29_1 : Int) : S := ⟨[(0, .c (.wh 0)), (1, .c (.wh 1)), (7, .c (.wh 2)), (8, .c (.s (.u64 y8_1))), (28, .c (.s (.k .i64 ((((if ((r13.2.2.2.1 : Nat) : Int) > ((r13.2.1 : Nat) : Int) then ((r13.2.2.2.1 : Nat) : Int) else ((r13.2.1 : Nat) : Int)) + 1).toNat : Nat) : Int)))), (29, .c (.s (.k .i64 i29_1)))], [], [⟨(.ro false), 45, 1, r13.2.1, .w r13.1⟩, ⟨(.ro false), 45, 1, r13.2.2.2.1, .w r13.2.2.1⟩, ⟨.row, 45, 1, ((if ((r13.2.2.2.1 : Nat) : Int) > ((r13.2.1 : Nat) : Int) then ((r13.2.2.2.1 : Nat) : Int) else ((r13.2.1 : Nat) : Int)) + 1).toNat, .w w7_1⟩]⟩
def pAdd_l1_P (n : Nat) (r13 : List UInt32 × Nat × List UInt32 × Nat × Bool) (r : List UInt32 × Nat × Option Int) (fu : Nat) : S → Prop := fun s => ∃ (w7_1 : List UInt32), ∃ (y8_1 : UInt64), ∃ (i29_1 : Int), s = pAdd_l1_E r13 w7_1 y8_1 i29_1 ∧ pAdd_l1 n r13 fu w7_1 y8_1 i29_1 = some r
theorem pAdd_l1_M {n : Nat} {r13 : List UInt32 × Nat × List UInt32 × Nat × Bool} {w7_1 : List UInt32} {y8_1 : UInt64} {i29_1 : Int} {r : List UInt32 × Nat × Option Int} {fu : Nat} (h : pAdd_l1 n r13 fu w7_1 y8_1 i29_1 = some r) : pAdd_l1_P n r13 r fu (pAdd_l1_E r13 w7_1 y8_1 i29_1) := ⟨w7_1, y8_1, i29_1, rfl, h⟩
def pAdd_R (r : List UInt32 × Nat × Option Int) : S := ⟨[(4, .c (.wh 0)), (5, .c (.s (.er 30 .i64 r.2.2)))], [], [⟨(.ro true), 45, 1, r.2.1, .w r.1⟩]⟩
def pAdd_ct (n : Nat) (r : List UInt32 × Nat × Option Int) : Ct := fun args H => match args with
  | [x0, x1] => (match aW H x0 with | some l0 => (match aW H x1 with | some l1 => some ([pAdd n l0 l1 = some r], shA H.length (.t [.c (.wh 0), .c (.s (.er 30 .i64 r.2.2))]), shH H.length [⟨(.ro true), 45, 1, r.2.1, .w r.1⟩]) | none => none) | none => none)
  | _ => none
theorem pAdd_ok (n : Nat) (r : List UInt32 × Nat × Option Int) : FnOk Try.prog Tr 26 (pAdd_ct n r) := by
  refine ⟨fun args H g av objs hF hg ρ w vals hG hp ha => ?_, _, Try.func26, by kernel_rfl, by kernel_rfl⟩
  obtain ⟨x0, x1, rfl⟩ : ∃ x0 x1, args = [x0, x1] := by
    unfold pAdd_ct at hF; split at hF
    · exact ⟨_, _, rfl⟩
    · cases hF
  cases e0 : aW H x0 with
  | none => simp only [pAdd_ct, e0, reduceCtorEq] at hF
  | some l0 =>
  cases e1 : aW H x1 with
  | none => simp only [pAdd_ct, e0, e1, reduceCtorEq] at hF
  | some l1 =>
  simp only [pAdd_ct, e0, e1, Option.some.injEq, Prod.mk.injEq] at hF
  obtain ⟨rfl, rfl, rfl⟩ := hF
  obtain ⟨v0, vals, rfl, k0, ha⟩ := F2.inv ha
  obtain ⟨v1, vals, rfl, k1, ha⟩ := F2.inv ha
  obtain rfl := F2.inv0 ha
  have hI : ∀ w', Kp (noB (fun _ => undef)) w w' → Tr w' := fun _ hk => Tr.keep hk.below hG
  have h : pAdd n l0 l1 = some r := hg
  obtain ⟨p0, s0, o0⟩ := aW_ok hp e0 (k0) 45
  obtain ⟨p1, s1, o1⟩ := aW_ok hp e1 (k1) 45
  have hR0 := rel0 (gv := (fun _ => undef)) (n := 51) (w := w) (args := [.c (.wh 0), .c (.wh 1)]) (H := [⟨.ro false, 45, 1, l0.length, .w l0⟩, ⟨.ro false, 45, 1, l1.length, .w l1⟩]) (gl := []) (hpL (ps := [p0, p1]) (F2.cons o0 (F2.cons o1 F2.nil))) (allRo_ok rfl) (F2.cons s0 (F2.cons s1 F2.nil)) GlR.nil (by simp)
  clear ha hp hg k0 k1 e0 e1
  refine calls_W Try.func26 rfl rfl hR0 (Q := fun e s => (e = .ret ∨ e = .normal) ∧ s = pAdd_R r) ?_ ?_
  · clear hR0
    unfold pAdd at h
    have hT := tabO_ntb
    refine W_seq ?_
    refine W_reg hT ftL_nil [] [] [0, 1] [0, 1] (s' := ⟨[(0, .c (.wh 0)), (1, .c (.wh 1))], [], [⟨(.ro false), 45, 1, l0.length, .w l0⟩, ⟨(.ro false), 45, 1, l1.length, .w l1⟩]⟩) (by kernel_rfl) allP_nil ?_
    refine W_seq ?_
    obtain ⟨r13, g1, h⟩ := bind_some' h
    refine W_reg hT (ftL_cons (k := 2) (f := 34) (F := (pmay_ct n r13)) (pmay_ok n r13) (fun _ _ => True.intro) ftL_nil) [] [] [0, 1, 6] [2, 3] (s' := ⟨[(0, .c (.wh 0)), (1, .c (.wh 1)), (6, .c (.s (.b r13.2.2.2.2)))], [], [⟨(.ro false), 45, 1, r13.2.1, .w r13.1⟩, ⟨(.ro false), 45, 1, r13.2.2.2.1, .w r13.2.2.1⟩]⟩) (by kernel_rfl) (allP_cons.2 ⟨g1, allP_nil⟩) ?_
    refine W_seq ?_
    refine W_seq ?_
    refine W_reg hT ftL_nil [] [] [0, 1, 18] [0, 1] (s' := ⟨[(0, .c (.wh 0)), (1, .c (.wh 1)), (18, .c (.s (.b (!r13.2.2.2.2))))], [], [⟨(.ro false), 45, 1, r13.2.1, .w r13.1⟩, ⟨(.ro false), 45, 1, r13.2.2.2.1, .w r13.2.2.1⟩]⟩) (by kernel_rfl) allP_nil ?_
    refine W_cond (b := (!r13.2.2.2.2)) (by kernel_rfl) (fun g14 => ?_) (fun g14 => ?_)
    · replace h := bif_t h g14
      refine W_seq ?_
      refine W_reg hT ftL_nil [] [] [4, 5] [] (s' := ⟨[(4, .c (.nils)), (5, .c (.s (.er 30 .i64 (some 4))))], [], []⟩) (by kernel_rfl) allP_nil ?_
      refine W_co [.emp 4 45 1 (.w []) true] [4, 5] [0] (s' := (pAdd_R ([], 0, (some 4)))) (by kernel_rfl) (W_ret ?_)
      exact ⟨.inl rfl, by cases h; rfl⟩
    · replace h := bif_f h g14
      refine W_co [] [0, 1] [0, 1] (s' := ⟨[(0, .c (.wh 0)), (1, .c (.wh 1))], [], [⟨(.ro false), 45, 1, r13.2.1, .w r13.1⟩, ⟨(.ro false), 45, 1, r13.2.2.2.1, .w r13.2.2.1⟩]⟩) (by kernel_rfl) (W_skip ?_)
      refine W_seq ?_
      obtain ⟨g2, h⟩ := gd_some h
      obtain ⟨g3, h⟩ := gd_some h
      obtain ⟨g4, h⟩ := gd_some h
      obtain ⟨g5, h⟩ := gd_some h
      refine W_reg hT ftL_nil [] [] [0, 1, 7, 8] [0, 1, 2] (s' := ⟨[(0, .c (.wh 0)), (1, .c (.wh 1)), (7, .c (.wh 2)), (8, .c (.s (.u64 0)))], [], [⟨(.ro false), 45, 1, r13.2.1, .w r13.1⟩, ⟨(.ro false), 45, 1, r13.2.2.2.1, .w r13.2.2.1⟩, ⟨.row, 45, 1, ((if ((r13.2.2.2.1 : Nat) : Int) > ((r13.2.1 : Nat) : Int) then ((r13.2.2.2.1 : Nat) : Int) else ((r13.2.1 : Nat) : Int)) + 1).toNat, .w (List.replicate (((if ((r13.2.2.2.1 : Nat) : Int) > ((r13.2.1 : Nat) : Int) then ((r13.2.2.2.1 : Nat) : Int) else ((r13.2.1 : Nat) : Int)) + 1).toNat) 0)⟩]⟩) (by kernel_rfl) (allP_cons.2 ⟨g2, (allP_cons.2 ⟨g3, (allP_cons.2 ⟨g4, (allP_cons.2 ⟨g5, allP_nil⟩)⟩)⟩)⟩) ?_
      refine W_seq ?_
      refine W_seq ?_
      refine W_reg hT ftL_nil [] [] [0, 1, 7, 8, 28, 29] [0, 1, 2] (s' := ⟨[(0, .c (.wh 0)), (1, .c (.wh 1)), (7, .c (.wh 2)), (8, .c (.s (.u64 0))), (28, .c (.s (.k .i64 ((((if ((r13.2.2.2.1 : Nat) : Int) > ((r13.2.1 : Nat) : Int) then ((r13.2.2.2.1 : Nat) : Int) else ((r13.2.1 : Nat) : Int)) + 1).toNat : Nat) : Int)))), (29, .c (.s (.k .i64 0)))], [], [⟨(.ro false), 45, 1, r13.2.1, .w r13.1⟩, ⟨(.ro false), 45, 1, r13.2.2.2.1, .w r13.2.2.1⟩, ⟨.row, 45, 1, ((if ((r13.2.2.2.1 : Nat) : Int) > ((r13.2.1 : Nat) : Int) then ((r13.2.2.2.1 : Nat) : Int) else ((r13.2.1 : Nat) : Int)) + 1).toNat, .w (List.replicate (((if ((r13.2.2.2.1 : Nat) : Int) > ((r13.2.1 : Nat) : Int) then ((r13.2.2.2.1 : Nat) : Int) else ((r13.2.1 : Nat) : Int)) + 1).toNat) 0)⟩]⟩) (by kernel_rfl) allP_nil ?_
      refine W_block ?_
      refine W_co [] [0, 1, 7, 8, 28, 29] [0, 1, 2] (s' := (pAdd_l1_E r13 (List.replicate (((if ((r13.2.2.2.1 : Nat) : Int) > ((r13.2.1 : Nat) : Int) then ((r13.2.2.2.1 : Nat) : Int) else ((r13.2.1 : Nat) : Int)) + 1).toNat) 0) 0 0)) (by kernel_rfl) (W_lp ((pAdd_l1_P n r13 r)) n (pAdd_l1_M h) ?_)
      rintro fu_l1 _ ⟨w7_1, y8_1, i29_1, rfl, h⟩
      cases fu_l1 with
      | zero => cases h
      | succ fu_l1 =>
        refine ⟨fu_l1, rfl, ?_⟩
        rw [pAdd_l1] at h
        refine W_seq ?_
        refine W_reg hT ftL_nil [] [] [0, 1, 7, 8, 28, 29, 30] [0, 1, 2] (s' := ⟨[(0, .c (.wh 0)), (1, .c (.wh 1)), (7, .c (.wh 2)), (8, .c (.s (.u64 y8_1))), (28, .c (.s (.k .i64 ((((if ((r13.2.2.2.1 : Nat) : Int) > ((r13.2.1 : Nat) : Int) then ((r13.2.2.2.1 : Nat) : Int) else ((r13.2.1 : Nat) : Int)) + 1).toNat : Nat) : Int)))), (29, .c (.s (.k .i64 i29_1))), (30, .c (.s (.b (decide (i29_1 < ((((if ((r13.2.2.2.1 : Nat) : Int) > ((r13.2.1 : Nat) : Int) then ((r13.2.2.2.1 : Nat) : Int) else ((r13.2.1 : Nat) : Int)) + 1).toNat : Nat) : Int))))))], [], [⟨(.ro false), 45, 1, r13.2.1, .w r13.1⟩, ⟨(.ro false), 45, 1, r13.2.2.2.1, .w r13.2.2.1⟩, ⟨.row, 45, 1, ((if ((r13.2.2.2.1 : Nat) : Int) > ((r13.2.1 : Nat) : Int) then ((r13.2.2.2.1 : Nat) : Int) else ((r13.2.1 : Nat) : Int)) + 1).toNat, .w w7_1⟩]⟩) (by kernel_rfl) allP_nil ?_
        refine W_seq ?_
        refine W_cond (b := (decide (i29_1 < ((((if ((r13.2.2.2.1 : Nat) : Int) > ((r13.2.1 : Nat) : Int) then ((r13.2.2.2.1 : Nat) : Int) else ((r13.2.1 : Nat) : Int)) + 1).toNat : Nat) : Int)))) (by kernel_rfl) (fun g13 => ?_) (fun g13 => ?_)
        · replace h := bif_t h g13
          refine W_co [] [0, 1, 7, 8, 28, 29] [0, 1, 2] (s' := ⟨[(0, .c (.wh 0)), (1, .c (.wh 1)), (7, .c (.wh 2)), (8, .c (.s (.u64 y8_1))), (28, .c (.s (.k .i64 ((((if ((r13.2.2.2.1 : Nat) : Int) > ((r13.2.1 : Nat) : Int) then ((r13.2.2.2.1 : Nat) : Int) else ((r13.2.1 : Nat) : Int)) + 1).toNat : Nat) : Int)))), (29, .c (.s (.k .i64 i29_1)))], [], [⟨(.ro false), 45, 1, r13.2.1, .w r13.1⟩, ⟨(.ro false), 45, 1, r13.2.2.2.1, .w r13.2.2.1⟩, ⟨.row, 45, 1, ((if ((r13.2.2.2.1 : Nat) : Int) > ((r13.2.1 : Nat) : Int) then ((r13.2.2.2.1 : Nat) : Int) else ((r13.2.1 : Nat) : Int)) + 1).toNat, .w w7_1⟩]⟩) (by kernel_rfl) (W_skip ?_)
          refine W_seq ?_
          refine W_block ?_
          refine W_seq ?_
          refine W_reg hT ftL_nil [] [] [0, 1, 7, 8, 9, 28, 29] [0, 1, 2] (s' := ⟨[(0, .c (.wh 0)), (1, .c (.wh 1)), (7, .c (.wh 2)), (8, .c (.s (.u64 y8_1))), (9, .c (.s (.k .i64 i29_1))), (28, .c (.s (.k .i64 ((((if ((r13.2.2.2.1 : Nat) : Int) > ((r13.2.1 : Nat) : Int) then ((r13.2.2.2.1 : Nat) : Int) else ((r13.2.1 : Nat) : Int)) + 1).toNat : Nat) : Int)))), (29, .c (.s (.k .i64 i29_1)))], [], [⟨(.ro false), 45, 1, r13.2.1, .w r13.1⟩, ⟨(.ro false), 45, 1, r13.2.2.2.1, .w r13.2.2.1⟩, ⟨.row, 45, 1, ((if ((r13.2.2.2.1 : Nat) : Int) > ((r13.2.1 : Nat) : Int) then ((r13.2.2.2.1 : Nat) : Int) else ((r13.2.1 : Nat) : Int)) + 1).toNat, .w w7_1⟩]⟩) (by kernel_rfl) allP_nil ?_
          refine W_seq ?_
          obtain ⟨r35_2, g6, h⟩ := bind_some' h
          obtain ⟨r38_2, g7, h⟩ := bind_some' h
          refine W_reg hT (ftL_cons (k := 3) (f := 43) (F := (pat_ct n r35_2)) (pat_ok n r35_2) (fun _ _ => True.intro) (ftL_cons (k := 6) (f := 43) (F := (pat_ct n r38_2)) (pat_ok n r38_2) (fun _ _ => True.intro) ftL_nil)) [] [] [0, 1, 7, 8, 9, 28, 29] [0, 1, 2] (s' := ⟨[(0, .c (.wh 0)), (1, .c (.wh 1)), (7, .c (.wh 2)), (8, .c (.s (.u64 (y8_1 + (r35_2 + r38_2))))), (9, .c (.s (.k .i64 i29_1))), (28, .c (.s (.k .i64 ((((if ((r13.2.2.2.1 : Nat) : Int) > ((r13.2.1 : Nat) : Int) then ((r13.2.2.2.1 : Nat) : Int) else ((r13.2.1 : Nat) : Int)) + 1).toNat : Nat) : Int)))), (29, .c (.s (.k .i64 i29_1)))], [], [⟨(.ro false), 45, 1, r13.2.1, .w r13.1⟩, ⟨(.ro false), 45, 1, r13.2.2.2.1, .w r13.2.2.1⟩, ⟨.row, 45, 1, ((if ((r13.2.2.2.1 : Nat) : Int) > ((r13.2.1 : Nat) : Int) then ((r13.2.2.2.1 : Nat) : Int) else ((r13.2.1 : Nat) : Int)) + 1).toNat, .w w7_1⟩]⟩) (by kernel_rfl) (allP_cons.2 ⟨g6, (allP_cons.2 ⟨g7, allP_nil⟩)⟩) ?_
          obtain ⟨g8, h⟩ := gd_some h
          obtain ⟨g9, h⟩ := gd_some h
          obtain ⟨g10, h⟩ := gd_some h
          refine W_reg hT ftL_nil [] [] [0, 1, 7, 8, 28, 29] [0, 1, 2] (s' := ⟨[(0, .c (.wh 0)), (1, .c (.wh 1)), (7, .c (.wh 2)), (8, .c (.s (.u64 (shr64 (y8_1 + (r35_2 + r38_2)) 32)))), (28, .c (.s (.k .i64 ((((if ((r13.2.2.2.1 : Nat) : Int) > ((r13.2.1 : Nat) : Int) then ((r13.2.2.2.1 : Nat) : Int) else ((r13.2.1 : Nat) : Int)) + 1).toNat : Nat) : Int)))), (29, .c (.s (.k .i64 i29_1)))], [], [⟨(.ro false), 45, 1, r13.2.1, .w r13.1⟩, ⟨(.ro false), 45, 1, r13.2.2.2.1, .w r13.2.2.1⟩, ⟨.row, 45, 1, ((if ((r13.2.2.2.1 : Nat) : Int) > ((r13.2.1 : Nat) : Int) then ((r13.2.2.2.1 : Nat) : Int) else ((r13.2.1 : Nat) : Int)) + 1).toNat, .w (w7_1.set i29_1.toNat ((y8_1 + (r35_2 + r38_2)).toUInt32))⟩]⟩) (by kernel_rfl) (allP_cons.2 ⟨g8, (allP_cons.2 ⟨g9, (allP_cons.2 ⟨g10, allP_nil⟩)⟩)⟩) ?_
          obtain ⟨g11, h⟩ := gd_some h
          refine W_reg hT ftL_nil [] [] [0, 1, 7, 8, 28, 29] [0, 1, 2] (s' := (pAdd_l1_E r13 (w7_1.set i29_1.toNat ((y8_1 + (r35_2 + r38_2)).toUInt32)) (shr64 (y8_1 + (r35_2 + r38_2)) 32) (i29_1 + 1))) (by kernel_rfl) (allP_cons.2 ⟨g11, allP_nil⟩) ?_
          exact pAdd_l1_M h
        · replace h := bif_f h g13
          refine W_co [] [7] [2] (s' := ⟨[(7, .c (.wh 0))], [], [⟨.row, 45, 1, ((if ((r13.2.2.2.1 : Nat) : Int) > ((r13.2.1 : Nat) : Int) then ((r13.2.2.2.1 : Nat) : Int) else ((r13.2.1 : Nat) : Int)) + 1).toNat, .w w7_1⟩]⟩) (by kernel_rfl) (W_exit ?_)
          refine W_seq ?_
          obtain ⟨r50_1, g12, h⟩ := bind_some' h
          refine W_reg hT (ftL_cons (k := 1) (f := 44) (F := (ptrim_ct n r50_1)) (ptrim_ok n r50_1) (fun _ _ => True.intro) ftL_nil) [] [] [4, 5] [0] (s' := ⟨[(4, .c (.sl 0 0 r50_1.2)), (5, .c (.s (.v .nilIface)))], [], [⟨.row, 45, 1, ((if ((r13.2.2.2.1 : Nat) : Int) > ((r13.2.1 : Nat) : Int) then ((r13.2.2.2.1 : Nat) : Int) else ((r13.2.1 : Nat) : Int)) + 1).toNat, .w w7_1⟩]⟩) (by kernel_rfl) (allP_cons.2 ⟨g12, allP_nil⟩) ?_
          refine W_co [.vw 4 true, .er 5 30 .i64] [4, 5] [1] (s' := (pAdd_R (((w7_1.drop 0).take r50_1.2), r50_1.2, none))) (by kernel_rfl) (W_ret ?_)
          exact ⟨.inl rfl, by cases h; rfl⟩
  · rintro e s' ⟨he, rfl⟩
    refine ⟨he, fun a' w' hr => ?_⟩
    exact retS_ok tabO_ntb hr (rs := [.tmp 4, .tmp 5]) rfl (objs := [0]) (by kernel_rfl)
def lone_R (r : Bool) : S := ⟨[(4, .c (.s (.b r)))], [], []⟩
def lone_ct (n : Nat) (r : Bool) : Ct := fun args H => match args with
  | [x0, x1] => (match aW H x0 with | some l0 => (match aU32 x1 with | some l1 => some ([lone n l0 l1 = some r], shA H.length (.c (.s (.b r))), shH H.length []) | none => none) | none => none)
  | _ => none
theorem lone_ok (n : Nat) (r : Bool) : FnOk Try.prog Tr 33 (lone_ct n r) := by
  refine ⟨fun args H g av objs hF hg ρ w vals hG hp ha => ?_, _, Try.func33, by kernel_rfl, by kernel_rfl⟩
  obtain ⟨x0, x1, rfl⟩ : ∃ x0 x1, args = [x0, x1] := by
    unfold lone_ct at hF; split at hF
    · exact ⟨_, _, rfl⟩
    · cases hF
  cases e0 : aW H x0 with
  | none => simp only [lone_ct, e0, reduceCtorEq] at hF
  | some l0 =>
  cases e1 : aU32 x1 with
  | none => simp only [lone_ct, e0, e1, reduceCtorEq] at hF
  | some l1 =>
  simp only [lone_ct, e0, e1, Option.some.injEq, Prod.mk.injEq] at hF
  obtain ⟨rfl, rfl, rfl⟩ := hF
  obtain ⟨v0, vals, rfl, k0, ha⟩ := F2.inv ha
  obtain ⟨v1, vals, rfl, k1, ha⟩ := F2.inv ha
  obtain rfl := F2.inv0 ha
  have hI : ∀ w', Kp (noB (fun _ => undef)) w w' → Tr w' := fun _ hk => Tr.keep hk.below hG
  have h : lone n l0 l1 = some r := hg
  obtain ⟨p0, s0, o0⟩ := aW_ok hp e0 (k0) 45
  have s1 := aU32_ok e1 (k1)
  have hR0 := rel0 (gv := (fun _ => undef)) (n := 15) (w := w) (args := [.c (.wh 0), .c (.s (.u32 l1))]) (H := [⟨.ro false, 45, 1, l0.length, .w l0⟩]) (gl := []) (hpL (ps := [p0]) (F2.cons o0 F2.nil)) (allRo_ok rfl) (F2.cons s0 (F2.cons s1 F2.nil)) GlR.nil (by simp)
  clear ha hp hg k0 k1 e0 e1
  refine calls_W Try.func33 rfl rfl hR0 (Q := fun e s => (e = .ret ∨ e = .normal) ∧ s = lone_R r) ?_ ?_
  · clear hR0
    unfold lone at h
    have hT := tabO_ntb
    refine W_seq ?_
    refine W_reg hT ftL_nil [] [] [0, 1] [0] (s' := ⟨[(0, .c (.wh 0)), (1, .c (.s (.u32 l1)))], [], [⟨(.ro false), 45, 1, l0.length, .w l0⟩]⟩) (by kernel_rfl) allP_nil ?_
    refine W_seq ?_
    rcases Bool.eq_false_or_eq_true (((l0.length : Nat) : Int) == 1) with g1 | g1
    · replace h := bif_t h g1
      obtain ⟨g2, h⟩ := gd_some h
      obtain ⟨g3, h⟩ := gd_some h
      refine W_reg hT ftL_nil [(3, true)] [] [4] [] (s' := ⟨[(4, .c (.s (.b ((l0.getD 0 0) == l1))))], [], []⟩) (by kernel_rfl) (allP_cons.2 ⟨g1, (allP_cons.2 ⟨g2, (allP_cons.2 ⟨g3, allP_nil⟩)⟩)⟩) ?_
      refine W_co [] [4] [] (s' := (lone_R ((l0.getD 0 0) == l1))) (by kernel_rfl) (W_ret ?_)
      exact ⟨.inl rfl, by cases h; rfl⟩
    · replace h := bif_f h g1
      refine W_reg hT ftL_nil [(3, false)] [] [4] [] (s' := ⟨[(4, .c (.s (.b false)))], [], []⟩) (by kernel_rfl) (allP_cons.2 ⟨g1, allP_nil⟩) ?_
      refine W_co [] [4] [] (s' := (lone_R false)) (by kernel_rfl) (W_ret ?_)
      exact ⟨.inl rfl, by cases h; rfl⟩
  · rintro e s' ⟨he, rfl⟩
    refine ⟨he, fun a' w' hr => ?_⟩
    exact retS_ok tabO_ntb hr (rs := [.tmp 4]) rfl (objs := []) (by kernel_rfl)
def lup_R (r : Bool) : S := ⟨[(0, .c (.s (.b r)))], [], []⟩
def lup_ct (n : Nat) (r : Bool) : Ct := fun args H => match args with
  | [] => some ([lup n = some r], shA H.length (.c (.s (.b r))), shH H.length [])
  | _ => none
theorem lup_ok (n : Nat) (r : Bool) : FnOk Try.prog Tr 11 (lup_ct n r) := by
  refine ⟨fun args H g av objs hF hg ρ w vals hG hp ha => ?_, _, Try.func11, by kernel_rfl, by kernel_rfl⟩
  obtain rfl : args = [] := by
    unfold lup_ct at hF; split at hF
    · exact rfl
    · cases hF
  simp only [lup_ct, Option.some.injEq, Prod.mk.injEq] at hF
  obtain ⟨rfl, rfl, rfl⟩ := hF
  obtain rfl := F2.inv0 ha
  have hI : ∀ w', Kp (noB (fun _ => undef)) w w' → Tr w' := fun _ hk => Tr.keep hk.below hG
  have h : lup n = some r := hg
  have hR0 := rel0 (gv := (fun _ => undef)) (n := 92) (w := w) (args := []) (H := []) (gl := []) (hpL (ps := []) F2.nil) (allRo_ok rfl) F2.nil GlR.nil (by simp)
  clear ha hp hg 
  refine calls_W Try.func11 rfl rfl hR0 (Q := fun e s => (e = .ret ∨ e = .normal) ∧ s = lup_R r) ?_ ?_
  · clear hR0
    unfold lup at h
    have hT := tabO_ntb
    refine W_seq ?_
    refine W_reg hT ftL_nil [] [] [] [] (s' := ⟨[], [], []⟩) (by kernel_rfl) allP_nil ?_
    refine W_seq ?_
    obtain ⟨r17, g1, h⟩ := bind_some' h
    refine W_reg hT (ftL_cons (k := 2) (f := 13) (F := (pDiv_ct n r17)) (pDiv_ok n r17) (fun _ _ => True.intro) ftL_nil) [] [] [1, 2, 3] [2, 3] (s' := ⟨[(1, .c (.wh 0)), (2, .c (.wh 1)), (3, .c (.s (.er 30 .i64 r17.2.2.2.2)))], [], [⟨(.ro true), 45, 1, r17.2.1, .w r17.1⟩, ⟨(.ro true), 45, 1, r17.2.2.2.1, .w r17.2.2.1⟩]⟩) (by kernel_rfl) (allP_cons.2 ⟨g1, allP_nil⟩) ?_
    refine W_seq ?_
    obtain ⟨r25, g2, h⟩ := bind_some' h
    refine W_reg hT (ftL_cons (k := 3) (f := 18) (F := (pExp_ct n r25)) (pExp_ok n r25) (fun _ _ => True.intro) ftL_nil) [] [] [1, 2, 3, 4, 5] [0, 1, 5] (s' := ⟨[(1, .c (.wh 0)), (2, .c (.wh 1)), (3, .c (.s (.er 30 .i64 r17.2.2.2.2))), (4, .c (.wh 2)), (5, .c (.s (.er 30 .i64 r25.2)))], [], [⟨(.ro true), 45, 1, r17.2.1, .w r17.1⟩, ⟨(.ro true), 45, 1, r17.2.2.2.1, .w r17.2.2.1⟩, ⟨.row, 45, 1, r25.1.length, .w r25.1⟩]⟩) (by kernel_rfl) (allP_cons.2 ⟨g2, allP_nil⟩) ?_
    refine W_seq ?_
    obtain ⟨r31, g3, h⟩ := bind_some' h
    refine W_reg hT (ftL_cons (k := 2) (f := 20) (F := (pInv_ct n r31)) (pInv_ok n r31) (fun _ _ => True.intro) ftL_nil) [] [] [1, 2, 3, 4, 5, 6, 7] [0, 1, 2, 5] (s' := ⟨[(1, .c (.wh 0)), (2, .c (.wh 1)), (3, .c (.s (.er 30 .i64 r17.2.2.2.2))), (4, .c (.wh 2)), (5, .c (.s (.er 30 .i64 r25.2))), (6, .c (.wh 3)), (7, .c (.s (.er 30 .i64 r31.2)))], [], [⟨(.ro true), 45, 1, r17.2.1, .w r17.1⟩, ⟨(.ro true), 45, 1, r17.2.2.2.1, .w r17.2.2.1⟩, ⟨.row, 45, 1, r25.1.length, .w r25.1⟩, ⟨.row, 45, 1, r31.1.length, .w r31.1⟩]⟩) (by kernel_rfl) (allP_cons.2 ⟨g3, allP_nil⟩) ?_
    refine W_seq ?_
    obtain ⟨r37, g4, h⟩ := bind_some' h
    refine W_reg hT (ftL_cons (k := 2) (f := 20) (F := (pInv_ct n r37)) (pInv_ok n r37) (fun _ _ => True.intro) ftL_nil) [] [] [1, 2, 3, 4, 5, 6, 7, 9] [0, 1, 2, 3] (s' := ⟨[(1, .c (.wh 0)), (2, .c (.wh 1)), (3, .c (.s (.er 30 .i64 r17.2.2.2.2))), (4, .c (.wh 2)), (5, .c (.s (.er 30 .i64 r25.2))), (6, .c (.wh 3)), (7, .c (.s (.er 30 .i64 r31.2))), (9, .c (.s (.er 30 .i64 r37.2)))], [], [⟨(.ro true), 45, 1, r17.2.1, .w r17.1⟩, ⟨(.ro true), 45, 1, r17.2.2.2.1, .w r17.2.2.1⟩, ⟨.row, 45, 1, r25.1.length, .w r25.1⟩, ⟨.row, 45, 1, r31.1.length, .w r31.1⟩]⟩) (by kernel_rfl) (allP_cons.2 ⟨g4, allP_nil⟩) ?_
    refine W_seq ?_
    obtain ⟨r43, g5, h⟩ := bind_some' h
    refine W_reg hT (ftL_cons (k := 2) (f := 27) (F := (pSub_ct n r43)) (pSub_ok n r43) (fun _ _ => True.intro) ftL_nil) [] [] [1, 2, 3, 4, 5, 6, 7, 9, 11] [0, 1, 2, 3] (s' := ⟨[(1, .c (.wh 0)), (2, .c (.wh 1)), (3, .c (.s (.er 30 .i64 r17.2.2.2.2))), (4, .c (.wh 2)), (5, .c (.s (.er 30 .i64 r25.2))), (6, .c (.wh 3)), (7, .c (.s (.er 30 .i64 r31.2))), (9, .c (.s (.er 30 .i64 r37.2))), (11, .c (.s (.er 30 .i64 r43.2.2)))], [], [⟨(.ro true), 45, 1, r17.2.1, .w r17.1⟩, ⟨(.ro true), 45, 1, r17.2.2.2.1, .w r17.2.2.1⟩, ⟨.row, 45, 1, r25.1.length, .w r25.1⟩, ⟨.row, 45, 1, r31.1.length, .w r31.1⟩]⟩) (by kernel_rfl) (allP_cons.2 ⟨g5, allP_nil⟩) ?_
    refine W_seq ?_
    obtain ⟨r48, g6, h⟩ := bind_some' h
    refine W_reg hT (ftL_cons (k := 1) (f := 32) (F := (pWrite_ct n r48)) (pWrite_ok n r48) (fun _ _ => True.intro) ftL_nil) [] [] [1, 2, 3, 4, 5, 6, 7, 9, 11, 13] [0, 1, 2, 3] (s' := ⟨[(1, .c (.wh 0)), (2, .c (.wh 1)), (3, .c (.s (.er 30 .i64 r17.2.2.2.2))), (4, .c (.wh 2)), (5, .c (.s (.er 30 .i64 r25.2))), (6, .c (.wh 3)), (7, .c (.s (.er 30 .i64 r31.2))), (9, .c (.s (.er 30 .i64 r37.2))), (11, .c (.s (.er 30 .i64 r43.2.2))), (13, .c (.s (.er 30 .i64 r48.2.2)))], [], [⟨(.ro true), 45, 1, r17.2.1, .w r17.1⟩, ⟨(.ro true), 45, 1, r17.2.2.2.1, .w r17.2.2.1⟩, ⟨.row, 45, 1, r25.1.length, .w r25.1⟩, ⟨.row, 45, 1, r31.1.length, .w r31.1⟩]⟩) (by kernel_rfl) (allP_cons.2 ⟨g6, allP_nil⟩) ?_
    refine W_seq ?_
    rcases Bool.eq_false_or_eq_true ((r17.2.2.2.2).isNone) with g7 | g7
    · replace h := bif_t h g7
      rcases Bool.eq_false_or_eq_true ((r25.2).isNone) with g8 | g8
      · replace h := bif_t h g8
        rcases Bool.eq_false_or_eq_true ((r31.2).isNone) with g9 | g9
        · replace h := bif_t h g9
          obtain ⟨r63, g10, h⟩ := bind_some' h
          rcases Bool.eq_false_or_eq_true r63 with g11 | g11
          · replace h := bif_t h g11
            obtain ⟨r67, g12, h⟩ := bind_some' h
            rcases Bool.eq_false_or_eq_true r67 with g13 | g13
            · replace h := bif_t h g13
              obtain ⟨r71, g14, h⟩ := bind_some' h
              rcases Bool.eq_false_or_eq_true r71 with g15 | g15
              · replace h := bif_t h g15
                obtain ⟨r75, g16, h⟩ := bind_some' h
                rcases Bool.eq_false_or_eq_true r75 with g17 | g17
                · replace h := bif_t h g17
                  obtain ⟨g18, h⟩ := gd_some h
                  rcases Bool.eq_false_or_eq_true (r37.2 == (some 13)) with g19 | g19
                  · replace h := bif_t h g19
                    obtain ⟨g20, h⟩ := gd_some h
                    rcases Bool.eq_false_or_eq_true (r43.2.2 == (some 1)) with g21 | g21
                    · replace h := bif_t h g21
                      obtain ⟨g22, h⟩ := gd_some h
                      refine W_reg hT (ftL_cons (k := 12) (f := 33) (F := (lone_ct n r63)) (lone_ok n r63) (fun _ _ => True.intro) (ftL_cons (k := 16) (f := 33) (F := (lone_ct n r67)) (lone_ok n r67) (fun _ _ => True.intro) (ftL_cons (k := 20) (f := 33) (F := (lone_ct n r71)) (lone_ok n r71) (fun _ _ => True.intro) (ftL_cons (k := 24) (f := 33) (F := (lone_ct n r75)) (lone_ok n r75) (fun _ _ => True.intro) ftL_nil)))) [(2, true), (6, true), (10, true), (14, true), (18, true), (22, true), (26, true), (31, true), (36, true)] [] [0] [] (s' := ⟨[(0, .c (.s (.b (r48.2.2 == (some 1)))))], [], []⟩) (by kernel_rfl) (allP_cons.2 ⟨g7, (allP_cons.2 ⟨g8, (allP_cons.2 ⟨g9, (allP_cons.2 ⟨g10, (allP_cons.2 ⟨g11, (allP_cons.2 ⟨g12, (allP_cons.2 ⟨g13, (allP_cons.2 ⟨g14, (allP_cons.2 ⟨g15, (allP_cons.2 ⟨g16, (allP_cons.2 ⟨g17, (allP_cons.2 ⟨g18, (allP_cons.2 ⟨g19, (allP_cons.2 ⟨g20, (allP_cons.2 ⟨g21, (allP_cons.2 ⟨g22, allP_nil⟩)⟩)⟩)⟩)⟩)⟩)⟩)⟩)⟩)⟩)⟩)⟩)⟩)⟩)⟩)⟩) ?_
                      refine W_co [] [0] [] (s' := (lup_R (r48.2.2 == (some 1)))) (by kernel_rfl) (W_ret ?_)
                      exact ⟨.inl rfl, by cases h; rfl⟩
                    · replace h := bif_f h g21
                      refine W_reg hT (ftL_cons (k := 12) (f := 33) (F := (lone_ct n r63)) (lone_ok n r63) (fun _ _ => True.intro) (ftL_cons (k := 16) (f := 33) (F := (lone_ct n r67)) (lone_ok n r67) (fun _ _ => True.intro) (ftL_cons (k := 20) (f := 33) (F := (lone_ct n r71)) (lone_ok n r71) (fun _ _ => True.intro) (ftL_cons (k := 24) (f := 33) (F := (lone_ct n r75)) (lone_ok n r75) (fun _ _ => True.intro) ftL_nil)))) [(2, true), (6, true), (10, true), (14, true), (18, true), (22, true), (26, true), (31, true), (36, false)] [] [0] [] (s' := ⟨[(0, .c (.s (.b false)))], [], []⟩) (by kernel_rfl) (allP_cons.2 ⟨g7, (allP_cons.2 ⟨g8, (allP_cons.2 ⟨g9, (allP_cons.2 ⟨g10, (allP_cons.2 ⟨g11, (allP_cons.2 ⟨g12, (allP_cons.2 ⟨g13, (allP_cons.2 ⟨g14, (allP_cons.2 ⟨g15, (allP_cons.2 ⟨g16, (allP_cons.2 ⟨g17, (allP_cons.2 ⟨g18, (allP_cons.2 ⟨g19, (allP_cons.2 ⟨g20, (allP_cons.2 ⟨g21, allP_nil⟩)⟩)⟩)⟩)⟩)⟩)⟩)⟩)⟩)⟩)⟩)⟩)⟩)⟩)⟩) ?_
                      refine W_co [] [0] [] (s' := (lup_R false)) (by kernel_rfl) (W_ret ?_)
                      exact ⟨.inl rfl, by cases h; rfl⟩
                  · replace h := bif_f h g19
                    refine W_reg hT (ftL_cons (k := 12) (f := 33) (F := (lone_ct n r63)) (lone_ok n r63) (fun _ _ => True.intro) (ftL_cons (k := 16) (f := 33) (F := (lone_ct n r67)) (lone_ok n r67) (fun _ _ => True.intro) (ftL_cons (k := 20) (f := 33) (F := (lone_ct n r71)) (lone_ok n r71) (fun _ _ => True.intro) (ftL_cons (k := 24) (f := 33) (F := (lone_ct n r75)) (lone_ok n r75) (fun _ _ => True.intro) ftL_nil)))) [(2, true), (6, true), (10, true), (14, true), (18, true), (22, true), (26, true), (31, false)] [] [0] [] (s' := ⟨[(0, .c (.s (.b false)))], [], []⟩) (by kernel_rfl) (allP_cons.2 ⟨g7, (allP_cons.2 ⟨g8, (allP_cons.2 ⟨g9, (allP_cons.2 ⟨g10, (allP_cons.2 ⟨g11, (allP_cons.2 ⟨g12, (allP_cons.2 ⟨g13, (allP_cons.2 ⟨g14, (allP_cons.2 ⟨g15, (allP_cons.2 ⟨g16, (allP_cons.2 ⟨g17, (allP_cons.2 ⟨g18, (allP_cons.2 ⟨g19, allP_nil⟩)⟩)⟩)⟩)⟩)⟩)⟩)⟩)⟩)⟩)⟩)⟩)⟩) ?_
                    refine W_co [] [0] [] (s' := (lup_R false)) (by kernel_rfl) (W_ret ?_)
                    exact ⟨.inl rfl, by cases h; rfl⟩
                · replace h := bif_f h g17
                  refine W_reg hT (ftL_cons (k := 12) (f := 33) (F := (lone_ct n r63)) (lone_ok n r63) (fun _ _ => True.intro) (ftL_cons (k := 16) (f := 33) (F := (lone_ct n r67)) (lone_ok n r67) (fun _ _ => True.intro) (ftL_cons (k := 20) (f := 33) (F := (lone_ct n r71)) (lone_ok n r71) (fun _ _ => True.intro) (ftL_cons (k := 24) (f := 33) (F := (lone_ct n r75)) (lone_ok n r75) (fun _ _ => True.intro) ftL_nil)))) [(2, true), (6, true), (10, true), (14, true), (18, true), (22, true), (26, false)] [] [0] [] (s' := ⟨[(0, .c (.s (.b false)))], [], []⟩) (by kernel_rfl) (allP_cons.2 ⟨g7, (allP_cons.2 ⟨g8, (allP_cons.2 ⟨g9, (allP_cons.2 ⟨g10, (allP_cons.2 ⟨g11, (allP_cons.2 ⟨g12, (allP_cons.2 ⟨g13, (allP_cons.2 ⟨g14, (allP_cons.2 ⟨g15, (allP_cons.2 ⟨g16, (allP_cons.2 ⟨g17, allP_nil⟩)⟩)⟩)⟩)⟩)⟩)⟩)⟩)⟩)⟩)⟩) ?_
                  refine W_co [] [0] [] (s' := (lup_R false)) (by kernel_rfl) (W_ret ?_)
                  exact ⟨.inl rfl, by cases h; rfl⟩
              · replace h := bif_f h g15
                refine W_reg hT (ftL_cons (k := 12) (f := 33) (F := (lone_ct n r63)) (lone_ok n r63) (fun _ _ => True.intro) (ftL_cons (k := 16) (f := 33) (F := (lone_ct n r67)) (lone_ok n r67) (fun _ _ => True.intro) (ftL_cons (k := 20) (f := 33) (F := (lone_ct n r71)) (lone_ok n r71) (fun _ _ => True.intro) ftL_nil))) [(2, true), (6, true), (10, true), (14, true), (18, true), (22, false)] [] [0] [] (s' := ⟨[(0, .c (.s (.b false)))], [], []⟩) (by kernel_rfl) (allP_cons.2 ⟨g7, (allP_cons.2 ⟨g8, (allP_cons.2 ⟨g9, (allP_cons.2 ⟨g10, (allP_cons.2 ⟨g11, (allP_cons.2 ⟨g12, (allP_cons.2 ⟨g13, (allP_cons.2 ⟨g14, (allP_cons.2 ⟨g15, allP_nil⟩)⟩)⟩)⟩)⟩)⟩)⟩)⟩)⟩) ?_
                refine W_co [] [0] [] (s' := (lup_R false)) (by kernel_rfl) (W_ret ?_)
                exact ⟨.inl rfl, by cases h; rfl⟩
            · replace h := bif_f h g13
              refine W_reg hT (ftL_cons (k := 12) (f := 33) (F := (lone_ct n r63)) (lone_ok n r63) (fun _ _ => True.intro) (ftL_cons (k := 16) (f := 33) (F := (lone_ct n r67)) (lone_ok n r67) (fun _ _ => True.intro) ftL_nil)) [(2, true), (6, true), (10, true), (14, true), (18, false)] [] [0] [] (s' := ⟨[(0, .c (.s (.b false)))], [], []⟩) (by kernel_rfl) (allP_cons.2 ⟨g7, (allP_cons.2 ⟨g8, (allP_cons.2 ⟨g9, (allP_cons.2 ⟨g10, (allP_cons.2 ⟨g11, (allP_cons.2 ⟨g12, (allP_cons.2 ⟨g13, allP_nil⟩)⟩)⟩)⟩)⟩)⟩)⟩) ?_
              refine W_co [] [0] [] (s' := (lup_R false)) (by kernel_rfl) (W_ret ?_)
              exact ⟨.inl rfl, by cases h; rfl⟩
          · replace h := bif_f h g11
            refine W_reg hT (ftL_cons (k := 12) (f := 33) (F := (lone_ct n r63)) (lone_ok n r63) (fun _ _ => True.intro) ftL_nil) [(2, true), (6, true), (10, true), (14, false)] [] [0] [] (s' := ⟨[(0, .c (.s (.b false)))], [], []⟩) (by kernel_rfl) (allP_cons.2 ⟨g7, (allP_cons.2 ⟨g8, (allP_cons.2 ⟨g9, (allP_cons.2 ⟨g10, (allP_cons.2 ⟨g11, allP_nil⟩)⟩)⟩)⟩)⟩) ?_
            refine W_co [] [0] [] (s' := (lup_R false)) (by kernel_rfl) (W_ret ?_)
            exact ⟨.inl rfl, by cases h; rfl⟩
        · replace h := bif_f h g9
          refine W_reg hT ftL_nil [(2, true), (6, true), (10, false)] [] [0] [] (s' := ⟨[(0, .c (.s (.b false)))], [], []⟩) (by kernel_rfl) (allP_cons.2 ⟨g7, (allP_cons.2 ⟨g8, (allP_cons.2 ⟨g9, allP_nil⟩)⟩)⟩) ?_
          refine W_co [] [0] [] (s' := (lup_R false)) (by kernel_rfl) (W_ret ?_)
          exact ⟨.inl rfl, by cases h; rfl⟩
      · replace h := bif_f h g8
        refine W_reg hT ftL_nil [(2, true), (6, false)] [] [0] [] (s' := ⟨[(0, .c (.s (.b false)))], [], []⟩) (by kernel_rfl) (allP_cons.2 ⟨g7, (allP_cons.2 ⟨g8, allP_nil⟩)⟩) ?_
        refine W_co [] [0] [] (s' := (lup_R false)) (by kernel_rfl) (W_ret ?_)
        exact ⟨.inl rfl, by cases h; rfl⟩
    · replace h := bif_f h g7
      refine W_reg hT ftL_nil [(2, false)] [] [0] [] (s' := ⟨[(0, .c (.s (.b false)))], [], []⟩) (by kernel_rfl) (allP_cons.2 ⟨g7, allP_nil⟩) ?_
      refine W_co [] [0] [] (s' := (lup_R false)) (by kernel_rfl) (W_ret ?_)
      exact ⟨.inl rfl, by cases h; rfl⟩
  · rintro e s' ⟨he, rfl⟩
    refine ⟨he, fun a' w' hr => ?_⟩
    exact retS_ok tabO_ntb hr (rs := [.tmp 0]) rfl (objs := []) (by kernel_rfl)
end Go.Proofs.Ytpinmaodpfoinaa
