import Derived.Test.YtcdljciflkefaaaZ3
import Derived.Test.YtcdljciflkefaaaProg
set_option linter.unusedVariables false
set_option linter.unusedSimpArgs false
section
namespace Go.Proofs.Ytcdljciflkefaaa
open Go.RowKit Go.Ch Go.Sx
def tabL_nwb : List (TypeId × Ti) := [(5, ⟨.int .u8, 1, 1, true, some [.int .u8]⟩),
 (23, ⟨.sl 5, 1, 24, false, some [.nils]⟩),
 (25, ⟨.ifc, 1, 16, true, some [.ifc]⟩),
 (29, ⟨.int .i64, 1, 8, true, some [.int .i64]⟩),
 (33, ⟨.ptr 58, 1, 8, true, some [.ptr]⟩),
 (56, ⟨.sl 64, 1, 24, false, some [.nils]⟩),
 (58, ⟨.st [(56, 0), (25, 1)], 2, 40, false, some [.nils, .ifc]⟩),
 (64, ⟨.st [(5, 0), (23, 1)], 2, 32, false, some [.int .u8, .nils]⟩)]
def tab_nwb : Tab := fun t => (tabL_nwb).lookup t
theorem tabE_nwb : (tabL_nwb.map fun p => tiOf Try.prog p.1) = tabL_nwb.map fun p => some p.2 := by kernel_rfl
theorem tabO_nwb : TabOk Try.prog tab_nwb := tab_of tabE_nwb
def wfail (n : Nat) (a0_0 : List (UInt8 × List UInt8)) (a0_1 : Option Int) (a1 : Option Int) : Option (Option Int) :=
 bif ((a0_1).isNone) then
 some a1
 else
 some a0_1
def wadd (n : Nat) (a0_0 : List (UInt8 × List UInt8)) (a0_1 : Option Int) (a1 : UInt8) (a2 : List UInt8) : Option (List (UInt8 × List UInt8) × Option Int) :=
 (tHead n a1 ((a2.length : Nat) : Int)).bind fun r13 =>
 bif (!((r13.2).isNone)) then
  (wfail n a0_0 a0_1 r13.2).bind fun r20 =>
  some (a0_0, r20)
 else
  gd (okI .i64 (((a0_0.length : Nat) : Int) - 1)) <|
  gd (0 ≤ (((a0_0.length : Nat) : Int) - 1)) <|
  gd ((((a0_0.length : Nat) : Int) - 1) < ((a0_0.length : Nat) : Int)) <|
  (lastS a0_0).bind fun p4 =>
  gd (((((((a0_0.length : Nat) : Int) - 1).toNat) * 2) + 1) < a0_0.length * 2) <|
  gd (((((((a0_0.length : Nat) : Int) - 1).toNat) * 2) + 1) = p4.1.length * 2 + 1) <|
  gd (rmB (p4.2.2.length + r13.1.length) 1) <|
  gd (rmB (((p4.2.2 ++ r13.1).length) + a2.length) 1) <|
  gd (((((((a0_0.length : Nat) : Int) - 1).toNat) * 2) + 1) < a0_0.length * 2) <|
  gd (((((((a0_0.length : Nat) : Int) - 1).toNat) * 2) + 1) = p4.1.length * 2 + 1) <|
  some ((p4.1 ++ [(p4.2.1, ((p4.2.2 ++ r13.1) ++ a2))]), a0_1)
def wPut (n : Nat) (a0_0 : List (UInt8 × List UInt8)) (a0_1 : Option Int) (a1 : UInt8) (a2 : List UInt8) : Option (List (UInt8 × List UInt8) × Option Int) :=
 bif (!((a0_1).isNone)) then
  some (a0_0, a0_1)
 else
  (tvalid n a1).bind fun r18 =>
  bif (!r18) then
   (wfail n a0_0 a0_1 (some 1)).bind fun r26 =>
   some (a0_0, r26)
  else
   (tisW n a1).bind fun r22 =>
   bif r22 then
    (wfail n a0_0 a0_1 (some 1)).bind fun r26 =>
    some (a0_0, r26)
   else
    (wadd n a0_0 a0_1 a1 a2).bind fun r9 =>
    some (r9.1, r9.2)
def wOpen (n : Nat) (a0_0 : List (UInt8 × List UInt8)) (a0_1 : Option Int) (a1 : UInt8) : Option (List (UInt8 × List UInt8) × Option Int) :=
 bif (!((a0_1).isNone)) then
  some (a0_0, a0_1)
 else
  (tvalid n a1).bind fun r23 =>
  bif (!r23) then
   (wfail n a0_0 a0_1 (some 1)).bind fun r32 =>
   some (a0_0, r32)
  else
   (tisW n a1).bind fun r27 =>
   bif (!r27) then
    (wfail n a0_0 a0_1 (some 1)).bind fun r32 =>
    some (a0_0, r32)
   else
    bif (decide ((24 : Int) < ((a0_0.length : Nat) : Int))) then
     (wfail n a0_0 a0_1 (some 5)).bind fun r42 =>
     some (a0_0, r42)
    else
     gd (rmB (a0_0.length + 1) 32) <|
     some ((a0_0 ++ [(a1, [])]), a0_1)
def wClose (n : Nat) (a0_0 : List (UInt8 × List UInt8)) (a0_1 : Option Int) : Option (List (UInt8 × List UInt8) × Option Int) :=
 bif (!((a0_1).isNone)) then
  some (a0_0, a0_1)
 else
  bif (((a0_0.length : Nat) : Int) == 1) then
   (wfail n a0_0 a0_1 (some 17)).bind fun r50 =>
   some (a0_0, r50)
  else
   (lastS a0_0).bind fun p0 =>
   gd (okI .i64 (((a0_0.length : Nat) : Int) - 1)) <|
   gd (0 ≤ (((a0_0.length : Nat) : Int) - 1)) <|
   gd ((((a0_0.length : Nat) : Int) - 1) < ((a0_0.length : Nat) : Int)) <|
   gd ((((((a0_0.length : Nat) : Int) - 1).toNat) * 2) = p0.1.length * 2) <|
   gd (okI .i64 (((a0_0.length : Nat) : Int) - 1)) <|
   gd (0 ≤ (((a0_0.length : Nat) : Int) - 1)) <|
   gd ((((a0_0.length : Nat) : Int) - 1) ≤ ((a0_0.length : Nat) : Int)) <|
   gd ((((a0_0.length : Nat) : Int) - 1).toNat = p0.1.length) <|
   (wadd n p0.1 a0_1 p0.2.1 p0.2.2).bind fun r34 =>
   some (r34.1, r34.2)
def wBytes (n : Nat) (a0_0 : List (UInt8 × List UInt8)) (a0_1 : Option Int) : Option (List (UInt8 × List UInt8) × Option Int × List UInt8 × Option Int) :=
 bif (!((a0_1).isNone)) then
  some (a0_0, a0_1, [], a0_1)
 else
  bif (decide ((1 : Int) < ((a0_0.length : Nat) : Int))) then
   some (a0_0, a0_1, [], (some 17))
  else
   (lastS a0_0).bind fun p5 =>
   gd (0 ≤ (0 : Int)) <|
   gd ((0 : Int) < ((a0_0.length : Nat) : Int)) <|
   gd (1 < a0_0.length * 2) <|
   gd (1 = p5.1.length * 2 + 1) <|
   gd ((p5.2.2).length ≤ 1000000000000) <|
   some ((p5.1 ++ [(p5.2.1, p5.2.2)]), a0_1, p5.2.2, none)
def wfail_R (a0_0 : List (UInt8 × List UInt8)) (r : Option Int) : S := ⟨[], [(1000000, kP 0 0)], [⟨.blk, 58, 1, 2, .c [.wh 1, .s (.er 29 .i64 r)]⟩, ⟨.row, 64, 2, a0_0.length, .g 2 a0_0.length 2 []⟩, ⟨.og, 64, 2, a0_0.length, .d (.pr .u8 (.by 5)) a0_0⟩]⟩
def wfail_ct (n : Nat) (r : Option Int) : CtM := ctM (cmm (mP 58 (mC (mG 64 (.pr .u8 (.by 5))) (mC (mEr 29) mN))) fun y0 => cmc (rEr 29).rd fun l1 => cmR (y0.1.1 = y0.1.2.length ∧ wfail n y0.1.2 y0.2.1 l1 = some r) (.t []) [⟨.blk, 58, 1, 2, .c [.wh 0, .s (.er 29 .i64 r)]⟩] [⟨.row, 64, 2, y0.1.2.length, .g 1 y0.1.2.length 2 []⟩, ⟨.og, 64, 2, y0.1.2.length, .d (.pr .u8 (.by 5)) y0.1.2⟩])
theorem wfail_ok (n : Nat) (r : Option Int) : FnMOk Try.prog 31 (wfail_ct n r) := by
 refine fnokM Try.func31 ?_
 refine HM_m (mP 58 (mC (mG 64 (.pr .u8 (.by 5))) (mC (mEr 29) mN))) (fun (p0 : ((Nat × List (UInt8 × List UInt8)) × (Option Int) × Unit)) => ?_) (allOwn_ok rfl)
 obtain ⟨⟨k0_0, l0_0⟩, l0_1, _⟩ := p0
 refine HM_c (rEr 29) fun l1 _ => HM_0 tabO_nwb (wfail_R l0_0 r) [] [0, 1, 2] 13 1 Try.func31 fun w bs h => ?_
 obtain ⟨ek0_0, h⟩ := h
 replace ek0_0 : k0_0 = l0_0.length := ek0_0
 subst ek0_0
 have h : wfail n l0_0 l0_1 l1 = some r := h
 unfold wfail at h
 have hT := tabO_nwb
 refine Vrs hT [0, 1, 2] ⟨[(0, kP 0 0), (1, kE 29 l1), (8, kB ((l0_1).isNone))], [(1000000, kP 0 0)], [⟨.blk, 58, 1, 2, .c [.wh 1, .s (.er 29 .i64 l0_1)]⟩, ⟨.row, 64, 2, l0_0.length, .g 2 l0_0.length 2 []⟩, ⟨.og, 64, 2, l0_0.length, .d (.pr .u8 (.by 5)) l0_0⟩]⟩ ?_
 refine Vi ((l0_1).isNone) (fun g1 => ?_) (fun g1 => ?_)
 ·replace h := bif_t h g1
  refine Vr hT [0, 1, 2] (wfail_R l0_0 l1) ?_
  exact ⟨.inr rfl, by cases h; rfl⟩
 ·replace h := bif_f h g1
  refine Vc [] [0, 1, 2] (wfail_R l0_0 l0_1) (W_skip ?_)
  exact ⟨.inr rfl, by cases h; rfl⟩
def wadd_R (r : List (UInt8 × List UInt8) × Option Int) : S := ⟨[], [(1000000, kP 0 0)], [⟨.blk, 58, 1, 2, .c [.wh 1, .s (.er 29 .i64 r.2)]⟩, ⟨.row, 64, 2, r.1.length, .g 2 r.1.length 2 []⟩, ⟨.og, 64, 2, r.1.length, .d (.pr .u8 (.by 5)) r.1⟩]⟩
def wadd_ct (n : Nat) (r : List (UInt8 × List UInt8) × Option Int) : CtM := ctM (cmm (mP 58 (mC (mG 64 (.pr .u8 (.by 5))) (mC (mEr 29) mN))) fun y0 => cmc rU8.rd fun l1 => cmb fun l2 => cmR (y0.1.1 = y0.1.2.length ∧ wadd n y0.1.2 y0.2.1 l1 l2 = some r) (.t []) [⟨.blk, 58, 1, 2, .c [.wh 0, .s (.er 29 .i64 r.2)]⟩] [⟨.row, 64, 2, r.1.length, .g 1 r.1.length 2 []⟩, ⟨.og, 64, 2, r.1.length, .d (.pr .u8 (.by 5)) r.1⟩])
theorem wadd_ok (n : Nat) (r : List (UInt8 × List UInt8) × Option Int) : FnMOk Try.prog 32 (wadd_ct n r) := by
 refine fnokM Try.func32 ?_
 refine HM_m (mP 58 (mC (mG 64 (.pr .u8 (.by 5))) (mC (mEr 29) mN))) (fun (p0 : ((Nat × List (UInt8 × List UInt8)) × (Option Int) × Unit)) => ?_) (allOwn_ok rfl)
 obtain ⟨⟨k0_0, l0_0⟩, l0_1, _⟩ := p0
 refine HM_c rU8 fun l1 _ => HM_b 5 fun l2 => HM_0 tabO_nwb (wadd_R r) [] [0, 1, 2] 43 1 Try.func32 fun w bs h => ?_
 obtain ⟨ek0_0, h⟩ := h
 replace ek0_0 : k0_0 = l0_0.length := ek0_0
 subst ek0_0
 have h : wadd n l0_0 l0_1 l1 l2 = some r := h
 unfold wadd at h
 have hT := tabO_nwb
 obtain ⟨r13, g1, h⟩ := bind_some' h
 refine Vgs hT (fT 3 (tHead_ok n r13) fN) [] [] [0, 1, 2, 3, 4] ⟨[(0, kP 0 0), (2, kH 3), (6, kH 4), (7, kE 29 r13.2)], [(1000000, kP 0 0)], [⟨.blk, 58, 1, 2, .c [.wh 1, .s (.er 29 .i64 l0_1)]⟩, ⟨.row, 64, 2, l0_0.length, .g 2 l0_0.length 2 []⟩, ⟨.og, 64, 2, l0_0.length, .d (.pr .u8 (.by 5)) l0_0⟩, ob 5 l2, nb 5 r13.1]⟩ (aP g1 aN) ?_
 refine W_seq ?_
 refine Vrs hT [0, 1, 2, 3, 4] ⟨[(0, kP 0 0), (2, kH 3), (6, kH 4), (7, kE 29 r13.2), (17, kB (!((r13.2).isNone)))], [(1000000, kP 0 0)], [⟨.blk, 58, 1, 2, .c [.wh 1, .s (.er 29 .i64 l0_1)]⟩, ⟨.row, 64, 2, l0_0.length, .g 2 l0_0.length 2 []⟩, ⟨.og, 64, 2, l0_0.length, .d (.pr .u8 (.by 5)) l0_0⟩, ob 5 l2, nb 5 r13.1]⟩ ?_
 refine Vi ((!((r13.2).isNone))) (fun g13 => ?_) (fun g13 => ?_)
 ·replace h := bif_t h g13
  refine W_seq ?_
  obtain ⟨r20, g2, h⟩ := bind_some' h
  replace g2 := mgA l0_0.length g2
  refine Vg hT (fM 2 (wfail_ok n r20) fN) [] [] [0, 5, 6] ⟨[], [(1000000, kP 0 0)], [⟨.blk, 58, 1, 2, .c [.wh 1, .s (.er 29 .i64 r20)]⟩, ⟨.row, 64, 2, l0_0.length, .g 2 l0_0.length 2 []⟩, ⟨.og, 64, 2, l0_0.length, .d (.pr .u8 (.by 5)) l0_0⟩]⟩ (aP g2 aN) ?_
  refine Vc [] [0, 1, 2] (wadd_R (l0_0, r20)) (W_ret ?_)
  exact ⟨.inl rfl, by cases h; rfl⟩
 ·replace h := bif_f h g13
  refine W_skip ?_
  obtain ⟨g3, g4, g5, h⟩ := gd3 h
  refine Vds hT fN 10 [] [(2, false), (6, false), (24, false), (30, false)] [] [0, 1, 2, 3, 4] ⟨[(2, kH 3), (6, kH 4), (8, kP 1 (((((l0_0.length : Nat) : Int) - 1).toNat) * 2))], [(1000000, kP 0 0)], [⟨.blk, 58, 1, 2, .c [.wh 1, .s (.er 29 .i64 l0_1)]⟩, ⟨.row, 64, 2, l0_0.length, .g 2 l0_0.length 2 []⟩, ⟨.og, 64, 2, l0_0.length, .d (.pr .u8 (.by 5)) l0_0⟩, ob 5 l2, nb 5 r13.1]⟩ (aP g3 (aP g4 (aP g5 aN))) ?_
  obtain ⟨p4, g6, h⟩ := bind_some' h
  refine W_pop 1 (.pr .u8 (.by 5)) g6 ⟨[(2, kH 3), (6, kH 4), (8, kP 1 (((((l0_0.length : Nat) : Int) - 1).toNat) * 2))], [(1000000, kP 0 0)], [⟨.blk, 58, 1, 2, .c [.wh 1, .s (.er 29 .i64 l0_1)]⟩, ⟨.row, 64, 2, l0_0.length, .g 5 p4.1.length 2 [.s (.u8 p4.2.1), .wh 6]⟩, ⟨.dead, 64, 2, l0_0.length, .d (.pr .u8 (.by 5)) l0_0⟩, ob 5 l2, nb 5 r13.1, ⟨.og, 64, 2, p4.1.length, .d (.pr .u8 (.by 5)) p4.1⟩, nb 5 p4.2.2]⟩ ?_
  obtain ⟨g7, g8, g9, g10, g11, h⟩ := gd5 h
  obtain ⟨g12, h⟩ := gd_some h
  refine W_weak ?_
  refine Vg hT fN [] [] [0, 1, 5, 8] ⟨[], [(1000000, kP 0 0)], [⟨.blk, 58, 1, 2, .c [.wh 1, .s (.er 29 .i64 l0_1)]⟩, ⟨.row, 64, 2, l0_0.length, .g 2 p4.1.length 2 [.s (.u8 p4.2.1), .wh 3]⟩, ⟨.og, 64, 2, p4.1.length, .d (.pr .u8 (.by 5)) p4.1⟩, nb 5 ((p4.2.2 ++ r13.1) ++ l2)]⟩ (aP g7 (aP g8 (aP g9 (aP g10 (aP g11 (aP g12 aN)))))) ?_
  refine ⟨[.ps 1 [3]], [p4.1.length], [], [], [0, 1, 4], (wadd_R ((p4.1 ++ [(p4.2.1, ((p4.2.2 ++ r13.1) ++ l2))]), l0_1)), (by kernel_rfl), ?_⟩
  exact ⟨.inr rfl, by cases h; rfl⟩
def wPut_R (r : List (UInt8 × List UInt8) × Option Int) : S := ⟨[], [(1000000, kP 0 0)], [⟨.blk, 58, 1, 2, .c [.wh 1, .s (.er 29 .i64 r.2)]⟩, ⟨.row, 64, 2, r.1.length, .g 2 r.1.length 2 []⟩, ⟨.og, 64, 2, r.1.length, .d (.pr .u8 (.by 5)) r.1⟩]⟩
def wPut_ct (n : Nat) (r : List (UInt8 × List UInt8) × Option Int) : CtM := ctM (cmm (mP 58 (mC (mG 64 (.pr .u8 (.by 5))) (mC (mEr 29) mN))) fun y0 => cmc rU8.rd fun l1 => cmb fun l2 => cmR (y0.1.1 = y0.1.2.length ∧ wPut n y0.1.2 y0.2.1 l1 l2 = some r) (.t []) [⟨.blk, 58, 1, 2, .c [.wh 0, .s (.er 29 .i64 r.2)]⟩] [⟨.row, 64, 2, r.1.length, .g 1 r.1.length 2 []⟩, ⟨.og, 64, 2, r.1.length, .d (.pr .u8 (.by 5)) r.1⟩])
theorem wPut_ok (n : Nat) (r : List (UInt8 × List UInt8) × Option Int) : FnMOk Try.prog 14 (wPut_ct n r) := by
 refine fnokM Try.func14 ?_
 refine HM_m (mP 58 (mC (mG 64 (.pr .u8 (.by 5))) (mC (mEr 29) mN))) (fun (p0 : ((Nat × List (UInt8 × List UInt8)) × (Option Int) × Unit)) => ?_) (allOwn_ok rfl)
 obtain ⟨⟨k0_0, l0_0⟩, l0_1, _⟩ := p0
 refine HM_c rU8 fun l1 _ => HM_b 5 fun l2 => HM_0 tabO_nwb (wPut_R r) [] [0, 1, 2] 27 1 Try.func14 fun w bs h => ?_
 obtain ⟨ek0_0, h⟩ := h
 replace ek0_0 : k0_0 = l0_0.length := ek0_0
 subst ek0_0
 have h : wPut n l0_0 l0_1 l1 l2 = some r := h
 unfold wPut at h
 have hT := tabO_nwb
 refine W_block ?_
 refine Vrs hT [0, 1, 2, 3] ⟨[(0, kP 0 0), (1, kU l1), (2, kH 3), (10, kB (!((l0_1).isNone)))], [(1000000, kP 0 0)], [⟨.blk, 58, 1, 2, .c [.wh 1, .s (.er 29 .i64 l0_1)]⟩, ⟨.row, 64, 2, l0_0.length, .g 2 l0_0.length 2 []⟩, ⟨.og, 64, 2, l0_0.length, .d (.pr .u8 (.by 5)) l0_0⟩, ob 5 l2]⟩ ?_
 refine Vi ((!((l0_1).isNone))) (fun g8 => ?_) (fun g8 => ?_)
 ·replace h := bif_t h g8
  refine Vc [] [0, 1, 2] (wPut_R (l0_0, l0_1)) (W_skip ?_)
  exact ⟨.inr rfl, by cases h; rfl⟩
 ·replace h := bif_f h g8
  refine W_seq ?_
  obtain ⟨r18, g1, h⟩ := bind_some' h
  rcases Bool.eq_false_or_eq_true (!r18) with g2 | g2
  ·replace h := bif_t h g2
   refine Vg hT (fT 1 (tvalid_ok n r18) fN) [(3, true)] [] [0, 1, 2, 3] ⟨[(0, kP 0 0), (1, kU l1), (2, kH 3), (16, kB true)], [(1000000, kP 0 0)], [⟨.blk, 58, 1, 2, .c [.wh 1, .s (.er 29 .i64 l0_1)]⟩, ⟨.row, 64, 2, l0_0.length, .g 2 l0_0.length 2 []⟩, ⟨.og, 64, 2, l0_0.length, .d (.pr .u8 (.by 5)) l0_0⟩, ob 5 l2]⟩ (aP g1 (aP g2 aN)) ?_
   refine Vi (true) (fun _ => ?_) (fun hb => by cases hb)
   obtain ⟨r26, g3, h⟩ := bind_some' h
   replace g3 := mgA l0_0.length g3
   refine Vg hT (fM 2 (wfail_ok n r26) fN) [] [] [0, 4, 5] (wPut_R (l0_0, r26)) (aP g3 aN) ?_
   exact ⟨.inr rfl, by cases h; rfl⟩
  ·replace h := bif_f h g2
   obtain ⟨r22, g4, h⟩ := bind_some' h
   refine Vg hT (fT 1 (tvalid_ok n r18) (fT 5 (tisW_ok n r22) fN)) [(3, false)] [] [0, 1, 2, 3] ⟨[(0, kP 0 0), (1, kU l1), (2, kH 3), (16, kB r22)], [(1000000, kP 0 0)], [⟨.blk, 58, 1, 2, .c [.wh 1, .s (.er 29 .i64 l0_1)]⟩, ⟨.row, 64, 2, l0_0.length, .g 2 l0_0.length 2 []⟩, ⟨.og, 64, 2, l0_0.length, .d (.pr .u8 (.by 5)) l0_0⟩, ob 5 l2]⟩ (aP g1 (aP g2 (aP g4 aN))) ?_
   refine Vi (r22) (fun g7 => ?_) (fun g7 => ?_)
   ·replace h := bif_t h g7
    obtain ⟨r26, g5, h⟩ := bind_some' h
    replace g5 := mgA l0_0.length g5
    refine Vg hT (fM 2 (wfail_ok n r26) fN) [] [] [0, 4, 5] (wPut_R (l0_0, r26)) (aP g5 aN) ?_
    exact ⟨.inr rfl, by cases h; rfl⟩
   ·replace h := bif_f h g7
    obtain ⟨r9, g6, h⟩ := bind_some' h
    replace g6 := mgA l0_0.length g6
    refine Vg hT (fM 3 (wadd_ok n r9) fN) [] [] [0, 4, 5] (wPut_R (r9.1, r9.2)) (aP g6 aN) ?_
    exact ⟨.inr rfl, by cases h; rfl⟩
def wOpen_R (r : List (UInt8 × List UInt8) × Option Int) : S := ⟨[], [(1000000, kP 0 0)], [⟨.blk, 58, 1, 2, .c [.wh 1, .s (.er 29 .i64 r.2)]⟩, ⟨.row, 64, 2, r.1.length, .g 2 r.1.length 2 []⟩, ⟨.og, 64, 2, r.1.length, .d (.pr .u8 (.by 5)) r.1⟩]⟩
def wOpen_ct (n : Nat) (r : List (UInt8 × List UInt8) × Option Int) : CtM := ctM (cmm (mP 58 (mC (mG 64 (.pr .u8 (.by 5))) (mC (mEr 29) mN))) fun y0 => cmc rU8.rd fun l1 => cmR (y0.1.1 = y0.1.2.length ∧ wOpen n y0.1.2 y0.2.1 l1 = some r) (.t []) [⟨.blk, 58, 1, 2, .c [.wh 0, .s (.er 29 .i64 r.2)]⟩] [⟨.row, 64, 2, r.1.length, .g 1 r.1.length 2 []⟩, ⟨.og, 64, 2, r.1.length, .d (.pr .u8 (.by 5)) r.1⟩])
theorem wOpen_ok (n : Nat) (r : List (UInt8 × List UInt8) × Option Int) : FnMOk Try.prog 16 (wOpen_ct n r) := by
 refine fnokM Try.func16 ?_
 refine HM_m (mP 58 (mC (mG 64 (.pr .u8 (.by 5))) (mC (mEr 29) mN))) (fun (p0 : ((Nat × List (UInt8 × List UInt8)) × (Option Int) × Unit)) => ?_) (allOwn_ok rfl)
 obtain ⟨⟨k0_0, l0_0⟩, l0_1, _⟩ := p0
 refine HM_c rU8 fun l1 _ => HM_0 tabO_nwb (wOpen_R r) [] [0, 1, 2] 43 1 Try.func16 fun w bs h => ?_
 obtain ⟨ek0_0, h⟩ := h
 replace ek0_0 : k0_0 = l0_0.length := ek0_0
 subst ek0_0
 have h : wOpen n l0_0 l0_1 l1 = some r := h
 unfold wOpen at h
 have hT := tabO_nwb
 refine W_block ?_
 refine Vrs hT [0, 1, 2] ⟨[(0, kP 0 0), (1, kU l1), (15, kB (!((l0_1).isNone)))], [(1000000, kP 0 0)], [⟨.blk, 58, 1, 2, .c [.wh 1, .s (.er 29 .i64 l0_1)]⟩, ⟨.row, 64, 2, l0_0.length, .g 2 l0_0.length 2 []⟩, ⟨.og, 64, 2, l0_0.length, .d (.pr .u8 (.by 5)) l0_0⟩]⟩ ?_
 refine Vi ((!((l0_1).isNone))) (fun g10 => ?_) (fun g10 => ?_)
 ·replace h := bif_t h g10
  refine Vc [] [0, 1, 2] (wOpen_R (l0_0, l0_1)) (W_skip ?_)
  exact ⟨.inr rfl, by cases h; rfl⟩
 ·replace h := bif_f h g10
  refine W_seq ?_
  obtain ⟨r23, g1, h⟩ := bind_some' h
  rcases Bool.eq_false_or_eq_true (!r23) with g2 | g2
  ·replace h := bif_t h g2
   refine Vg hT (fT 1 (tvalid_ok n r23) fN) [(3, true)] [] [0, 1, 2] ⟨[(0, kP 0 0), (1, kU l1), (21, kB true)], [(1000000, kP 0 0)], [⟨.blk, 58, 1, 2, .c [.wh 1, .s (.er 29 .i64 l0_1)]⟩, ⟨.row, 64, 2, l0_0.length, .g 2 l0_0.length 2 []⟩, ⟨.og, 64, 2, l0_0.length, .d (.pr .u8 (.by 5)) l0_0⟩]⟩ (aP g1 (aP g2 aN)) ?_
   refine Vi (true) (fun _ => ?_) (fun hb => by cases hb)
   obtain ⟨r32, g3, h⟩ := bind_some' h
   replace g3 := mgA l0_0.length g3
   refine Vg hT (fM 2 (wfail_ok n r32) fN) [] [] [0, 3, 4] (wOpen_R (l0_0, r32)) (aP g3 aN) ?_
   exact ⟨.inr rfl, by cases h; rfl⟩
  ·replace h := bif_f h g2
   obtain ⟨r27, g4, h⟩ := bind_some' h
   refine Vg hT (fT 1 (tvalid_ok n r23) (fT 5 (tisW_ok n r27) fN)) [(3, false)] [] [0, 1, 2] ⟨[(0, kP 0 0), (1, kU l1), (21, kB (!r27))], [(1000000, kP 0 0)], [⟨.blk, 58, 1, 2, .c [.wh 1, .s (.er 29 .i64 l0_1)]⟩, ⟨.row, 64, 2, l0_0.length, .g 2 l0_0.length 2 []⟩, ⟨.og, 64, 2, l0_0.length, .d (.pr .u8 (.by 5)) l0_0⟩]⟩ (aP g1 (aP g2 (aP g4 aN))) ?_
   refine Vi ((!r27)) (fun g9 => ?_) (fun g9 => ?_)
   ·replace h := bif_t h g9
    obtain ⟨r32, g5, h⟩ := bind_some' h
    replace g5 := mgA l0_0.length g5
    refine Vg hT (fM 2 (wfail_ok n r32) fN) [] [] [0, 3, 4] (wOpen_R (l0_0, r32)) (aP g5 aN) ?_
    exact ⟨.inr rfl, by cases h; rfl⟩
   ·replace h := bif_f h g9
    refine Vrs hT [0, 1, 2] ⟨[(0, kP 0 0), (1, kU l1), (33, kB (decide ((24 : Int) < ((l0_0.length : Nat) : Int))))], [(1000000, kP 0 0)], [⟨.blk, 58, 1, 2, .c [.wh 1, .s (.er 29 .i64 l0_1)]⟩, ⟨.row, 64, 2, l0_0.length, .g 2 l0_0.length 2 []⟩, ⟨.og, 64, 2, l0_0.length, .d (.pr .u8 (.by 5)) l0_0⟩]⟩ ?_
    refine Vi ((decide ((24 : Int) < ((l0_0.length : Nat) : Int)))) (fun g8 => ?_) (fun g8 => ?_)
    ·replace h := bif_t h g8
     obtain ⟨r42, g6, h⟩ := bind_some' h
     replace g6 := mgA l0_0.length g6
     refine Vg hT (fM 2 (wfail_ok n r42) fN) [] [] [0, 3, 4] (wOpen_R (l0_0, r42)) (aP g6 aN) ?_
     exact ⟨.inr rfl, by cases h; rfl⟩
    ·replace h := bif_f h g8
     obtain ⟨g7, h⟩ := gd_some h
     refine W_weak ?_
     refine Vg hT fN [] [] [0, 4, 2] ⟨[], [(1000000, kP 0 0)], [⟨.blk, 58, 1, 2, .c [.wh 1, .s (.er 29 .i64 l0_1)]⟩, ⟨.row, 64, 2, (l0_0.length + 1), .g 2 l0_0.length 2 [.s (.u8 l1), .nils]⟩, ⟨.og, 64, 2, l0_0.length, .d (.pr .u8 (.by 5)) l0_0⟩]⟩ (aP g7 aN) ?_
     refine ⟨[.ps 1 []], [l0_0.length], [], [], [0, 1, 3], (wOpen_R ((l0_0 ++ [(l1, [])]), l0_1)), (by kernel_rfl), ?_⟩
     exact ⟨.inr rfl, by cases h; rfl⟩
def wClose_R (r : List (UInt8 × List UInt8) × Option Int) : S := ⟨[], [(1000000, kP 0 0)], [⟨.blk, 58, 1, 2, .c [.wh 1, .s (.er 29 .i64 r.2)]⟩, ⟨.row, 64, 2, r.1.length, .g 2 r.1.length 2 []⟩, ⟨.og, 64, 2, r.1.length, .d (.pr .u8 (.by 5)) r.1⟩]⟩
def wClose_ct (n : Nat) (r : List (UInt8 × List UInt8) × Option Int) : CtM := ctM (cmm (mP 58 (mC (mG 64 (.pr .u8 (.by 5))) (mC (mEr 29) mN))) fun y0 => cmR (y0.1.1 = y0.1.2.length ∧ wClose n y0.1.2 y0.2.1 = some r) (.t []) [⟨.blk, 58, 1, 2, .c [.wh 0, .s (.er 29 .i64 r.2)]⟩] [⟨.row, 64, 2, r.1.length, .g 1 r.1.length 2 []⟩, ⟨.og, 64, 2, r.1.length, .d (.pr .u8 (.by 5)) r.1⟩])
theorem wClose_ok (n : Nat) (r : List (UInt8 × List UInt8) × Option Int) : FnMOk Try.prog 18 (wClose_ct n r) := by
 refine fnokM Try.func18 ?_
 refine HM_m (mP 58 (mC (mG 64 (.pr .u8 (.by 5))) (mC (mEr 29) mN))) (fun (p0 : ((Nat × List (UInt8 × List UInt8)) × (Option Int) × Unit)) => ?_) (allOwn_ok rfl)
 obtain ⟨⟨k0_0, l0_0⟩, l0_1, _⟩ := p0
 refine HM_0 tabO_nwb (wClose_R r) [] [0, 1, 2] 51 1 Try.func18 fun w bs h => ?_
 obtain ⟨ek0_0, h⟩ := h
 replace ek0_0 : k0_0 = l0_0.length := ek0_0
 subst ek0_0
 have h : wClose n l0_0 l0_1 = some r := h
 unfold wClose at h
 have hT := tabO_nwb
 refine W_block ?_
 refine Vrs hT [0, 1, 2] ⟨[(0, kP 0 0), (35, kB (!((l0_1).isNone)))], [(1000000, kP 0 0)], [⟨.blk, 58, 1, 2, .c [.wh 1, .s (.er 29 .i64 l0_1)]⟩, ⟨.row, 64, 2, l0_0.length, .g 2 l0_0.length 2 []⟩, ⟨.og, 64, 2, l0_0.length, .d (.pr .u8 (.by 5)) l0_0⟩]⟩ ?_
 refine Vi ((!((l0_1).isNone))) (fun g13 => ?_) (fun g13 => ?_)
 ·replace h := bif_t h g13
  refine Vc [] [0, 1, 2] (wClose_R (l0_0, l0_1)) (W_skip ?_)
  exact ⟨.inr rfl, by cases h; rfl⟩
 ·replace h := bif_f h g13
  refine Vrs hT [0, 1, 2] ⟨[(0, kP 0 0), (41, kB (((l0_0.length : Nat) : Int) == 1))], [(1000000, kP 0 0)], [⟨.blk, 58, 1, 2, .c [.wh 1, .s (.er 29 .i64 l0_1)]⟩, ⟨.row, 64, 2, l0_0.length, .g 2 l0_0.length 2 []⟩, ⟨.og, 64, 2, l0_0.length, .d (.pr .u8 (.by 5)) l0_0⟩]⟩ ?_
  refine Vi ((((l0_0.length : Nat) : Int) == 1)) (fun g12 => ?_) (fun g12 => ?_)
  ·replace h := bif_t h g12
   obtain ⟨r50, g1, h⟩ := bind_some' h
   replace g1 := mgA l0_0.length g1
   refine Vg hT (fM 2 (wfail_ok n r50) fN) [] [] [0, 3, 4] (wClose_R (l0_0, r50)) (aP g1 aN) ?_
   exact ⟨.inr rfl, by cases h; rfl⟩
  ·replace h := bif_f h g12
   refine W_seq ?_
   obtain ⟨p0, g2, h⟩ := bind_some' h
   refine W_pop 1 (.pr .u8 (.by 5)) g2 ⟨[(0, kP 0 0), (41, kB (((l0_0.length : Nat) : Int) == 1))], [(1000000, kP 0 0)], [⟨.blk, 58, 1, 2, .c [.wh 1, .s (.er 29 .i64 l0_1)]⟩, ⟨.row, 64, 2, l0_0.length, .g 3 p0.1.length 2 [.s (.u8 p0.2.1), .wh 4]⟩, ⟨.dead, 64, 2, l0_0.length, .d (.pr .u8 (.by 5)) l0_0⟩, ⟨.og, 64, 2, p0.1.length, .d (.pr .u8 (.by 5)) p0.1⟩, nb 5 p0.2.2]⟩ ?_
   obtain ⟨g3, g4, g5, g6, h⟩ := gd4 h
   refine Vd hT fN 13 [] [(0, false), (2, false), (14, false)] [] [0, 1, 3, 4, 5] ⟨[(0, kP 0 0), (2, kP 4 0)], [(1000000, kP 0 0)], [⟨.blk, 58, 1, 2, .c [.wh 1, .s (.er 29 .i64 l0_1)]⟩, ⟨.row, 64, 2, l0_0.length, .g 2 p0.1.length 2 [.s (.u8 p0.2.1), .wh 3]⟩, ⟨.og, 64, 2, p0.1.length, .d (.pr .u8 (.by 5)) p0.1⟩, nb 5 p0.2.2, ⟨.blk, 64, 1, 2, .c [.s (.u8 p0.2.1), .wh 3]⟩]⟩ (aP g3 (aP g4 (aP g5 (aP g6 aN)))) ?_
   obtain ⟨g7, g8, g9, h⟩ := gd3 h
   refine Vds hT fN 13 [] [(0, false), (2, false), (26, false), (27, false)] [] [0, 1, 2, 3, 4] ⟨[(0, kP 0 0), (2, kP 4 0)], [(1000000, kP 0 0)], [⟨.blk, 58, 1, 2, .c [.pre 1 ((((l0_0.length : Nat) : Int) - 1).toNat), .s (.er 29 .i64 l0_1)]⟩, ⟨.row, 64, 2, l0_0.length, .g 2 p0.1.length 2 [.s (.u8 p0.2.1), .wh 3]⟩, ⟨.og, 64, 2, p0.1.length, .d (.pr .u8 (.by 5)) p0.1⟩, nb 5 p0.2.2, ⟨.blk, 64, 1, 2, .c [.s (.u8 p0.2.1), .wh 3]⟩]⟩ (aP g7 (aP g8 (aP g9 aN))) ?_
   obtain ⟨g10, h⟩ := gd_some h
   refine W_cutg 0 0 g10 ⟨[(0, kP 0 0), (2, kP 4 0)], [(1000000, kP 0 0)], [⟨.blk, 58, 1, 2, .c [.wh 5, .s (.er 29 .i64 l0_1)]⟩, ⟨.dead, 64, 2, l0_0.length, .g 2 p0.1.length 2 [.s (.u8 p0.2.1), .wh 3]⟩, ⟨.og, 64, 2, p0.1.length, .d (.pr .u8 (.by 5)) p0.1⟩, nb 5 p0.2.2, ⟨.blk, 64, 1, 2, .c [.s (.u8 p0.2.1), .wh 3]⟩, ⟨.row, 64, 2, p0.1.length, .g 2 p0.1.length 2 []⟩]⟩ ?_
   obtain ⟨r34, g11, h⟩ := bind_some' h
   replace g11 := mgA p0.1.length g11
   refine Vg hT (fM 5 (wadd_ok n r34) fN) [] [] [0, 6, 7] (wClose_R (r34.1, r34.2)) (aP g11 aN) ?_
   exact ⟨.inr rfl, by cases h; rfl⟩
def wBytes_R (r : List (UInt8 × List UInt8) × Option Int × List UInt8 × Option Int) : S := ⟨[(2, kH 3), (3, kE 29 r.2.2.2)], [(1000000, kP 0 0)], [⟨.blk, 58, 1, 2, .c [.wh 1, .s (.er 29 .i64 r.2.1)]⟩, ⟨.row, 64, 2, r.1.length, .g 2 r.1.length 2 []⟩, ⟨.og, 64, 2, r.1.length, .d (.pr .u8 (.by 5)) r.1⟩, nb 5 r.2.2.1]⟩
def wBytes_ct (n : Nat) (r : List (UInt8 × List UInt8) × Option Int × List UInt8 × Option Int) : CtM := ctM (cmm (mP 58 (mC (mG 64 (.pr .u8 (.by 5))) (mC (mEr 29) mN))) fun y0 => cmR (y0.1.1 = y0.1.2.length ∧ wBytes n y0.1.2 y0.2.1 = some r) (.t [.c (.wh 2), .c (.s (.er 29 .i64 r.2.2.2))]) [⟨.blk, 58, 1, 2, .c [.wh 0, .s (.er 29 .i64 r.2.1)]⟩] [⟨.row, 64, 2, r.1.length, .g 1 r.1.length 2 []⟩, ⟨.og, 64, 2, r.1.length, .d (.pr .u8 (.by 5)) r.1⟩, nb 5 r.2.2.1])
theorem wBytes_ok (n : Nat) (r : List (UInt8 × List UInt8) × Option Int × List UInt8 × Option Int) : FnMOk Try.prog 20 (wBytes_ct n r) := by
 refine fnokM Try.func20 ?_
 refine HM_m (mP 58 (mC (mG 64 (.pr .u8 (.by 5))) (mC (mEr 29) mN))) (fun (p0 : ((Nat × List (UInt8 × List UInt8)) × (Option Int) × Unit)) => ?_) (allOwn_ok rfl)
 obtain ⟨⟨k0_0, l0_0⟩, l0_1, _⟩ := p0
 refine HM_0 tabO_nwb (wBytes_R r) [.tmp 2, .tmp 3] [0, 1, 2, 3] 30 1 Try.func20 fun w bs h => ?_
 obtain ⟨ek0_0, h⟩ := h
 replace ek0_0 : k0_0 = l0_0.length := ek0_0
 subst ek0_0
 have h : wBytes n l0_0 l0_1 = some r := h
 unfold wBytes at h
 have hT := tabO_nwb
 refine Vrs hT [0, 1, 2] ⟨[(0, kP 0 0)], [(1000000, kP 0 0)], [⟨.blk, 58, 1, 2, .c [.wh 1, .s (.er 29 .i64 l0_1)]⟩, ⟨.row, 64, 2, l0_0.length, .g 2 l0_0.length 2 []⟩, ⟨.og, 64, 2, l0_0.length, .d (.pr .u8 (.by 5)) l0_0⟩]⟩ ?_
 refine W_seq ?_
 refine W_block ?_
 refine Vrs hT [0, 1, 2] ⟨[(0, kP 0 0), (4, kB (!((l0_1).isNone)))], [(1000000, kP 0 0)], [⟨.blk, 58, 1, 2, .c [.wh 1, .s (.er 29 .i64 l0_1)]⟩, ⟨.row, 64, 2, l0_0.length, .g 2 l0_0.length 2 []⟩, ⟨.og, 64, 2, l0_0.length, .d (.pr .u8 (.by 5)) l0_0⟩]⟩ ?_
 refine Vi ((!((l0_1).isNone))) (fun g8 => ?_) (fun g8 => ?_)
 ·replace h := bif_t h g8
  refine Vds hT fN 5 [] [(2, false), (13, false)] [] [0, 1, 2] ⟨[(2, .c (.nils)), (3, kE 29 l0_1)], [(1000000, kP 0 0)], [⟨.blk, 58, 1, 2, .c [.wh 1, .s (.er 29 .i64 l0_1)]⟩, ⟨.row, 64, 2, l0_0.length, .g 2 l0_0.length 2 []⟩, ⟨.og, 64, 2, l0_0.length, .d (.pr .u8 (.by 5)) l0_0⟩]⟩ aN ?_
  refine Vc [.nil 2 5 1 (.b [])] [0, 1, 2, 3] (wBytes_R (l0_0, l0_1, [], l0_1)) (W_ret ?_)
  exact ⟨.inl rfl, by cases h; rfl⟩
 ·replace h := bif_f h g8
  refine Vrs hT [0, 1, 2] ⟨[(0, kP 0 0), (14, kB (decide ((1 : Int) < ((l0_0.length : Nat) : Int))))], [(1000000, kP 0 0)], [⟨.blk, 58, 1, 2, .c [.wh 1, .s (.er 29 .i64 l0_1)]⟩, ⟨.row, 64, 2, l0_0.length, .g 2 l0_0.length 2 []⟩, ⟨.og, 64, 2, l0_0.length, .d (.pr .u8 (.by 5)) l0_0⟩]⟩ ?_
  refine Vi ((decide ((1 : Int) < ((l0_0.length : Nat) : Int)))) (fun g7 => ?_) (fun g7 => ?_)
  ·replace h := bif_t h g7
   refine Vrs hT [0, 1, 2] ⟨[(2, .c (.nils)), (3, kE 29 (some 17))], [(1000000, kP 0 0)], [⟨.blk, 58, 1, 2, .c [.wh 1, .s (.er 29 .i64 l0_1)]⟩, ⟨.row, 64, 2, l0_0.length, .g 2 l0_0.length 2 []⟩, ⟨.og, 64, 2, l0_0.length, .d (.pr .u8 (.by 5)) l0_0⟩]⟩ ?_
   refine Vc [.nil 2 5 1 (.b [])] [0, 1, 2, 3] (wBytes_R (l0_0, l0_1, [], (some 17))) (W_ret ?_)
   exact ⟨.inl rfl, by cases h; rfl⟩
  ·replace h := bif_f h g7
   refine Vc [] [0, 1, 2] ⟨[(0, kP 0 0)], [(1000000, kP 0 0)], [⟨.blk, 58, 1, 2, .c [.wh 1, .s (.er 29 .i64 l0_1)]⟩, ⟨.row, 64, 2, l0_0.length, .g 2 l0_0.length 2 []⟩, ⟨.og, 64, 2, l0_0.length, .d (.pr .u8 (.by 5)) l0_0⟩]⟩ (W_skip ?_)
   refine W_seq ?_
   obtain ⟨p5, g1, h⟩ := bind_some' h
   refine W_pop 1 (.pr .u8 (.by 5)) g1 ⟨[(0, kP 0 0)], [(1000000, kP 0 0)], [⟨.blk, 58, 1, 2, .c [.wh 1, .s (.er 29 .i64 l0_1)]⟩, ⟨.row, 64, 2, l0_0.length, .g 3 p5.1.length 2 [.s (.u8 p5.2.1), .wh 4]⟩, ⟨.dead, 64, 2, l0_0.length, .d (.pr .u8 (.by 5)) l0_0⟩, ⟨.og, 64, 2, p5.1.length, .d (.pr .u8 (.by 5)) p5.1⟩, nb 5 p5.2.2]⟩ ?_
   obtain ⟨g2, g3, g4, g5, g6, h⟩ := gd5 h
   refine Vg hT (fT 7 cloneb_h fN) [] [] [0, 1, 3, 4, 5] ⟨[(2, kH 4), (3, .c (.s (.v .nilIface)))], [(1000000, kP 0 0)], [⟨.blk, 58, 1, 2, .c [.wh 1, .s (.er 29 .i64 l0_1)]⟩, ⟨.row, 64, 2, l0_0.length, .g 2 p5.1.length 2 [.s (.u8 p5.2.1), .wh 3]⟩, ⟨.og, 64, 2, p5.1.length, .d (.pr .u8 (.by 5)) p5.1⟩, nb 5 p5.2.2, nb 5 p5.2.2]⟩ (aP g2 (aP g3 (aP g4 (aP g5 (aP g6 aN))))) ?_
   refine W_cod [.ps 1 [3]] [p5.1.length] [.er 3 29 .i64] [2, 3] [0, 1, 5, 4] (s' := (wBytes_R ((p5.1 ++ [(p5.2.1, p5.2.2)]), l0_1, p5.2.2, none))) (by kernel_rfl) (W_ret ?_)
   exact ⟨.inl rfl, by cases h; rfl⟩
end Go.Proofs.Ytcdljciflkefaaa
end
section
namespace Go.Proofs.Ytcdljciflkefaaa
open Go.RowKit Go.Ch Go.Sx
def tabL_nwc : List (TypeId × Ti) := [(3, ⟨.int .i64, 1, 8, true, some [.int .i64]⟩),
 (5, ⟨.int .u8, 1, 1, true, some [.int .u8]⟩),
 (23, ⟨.sl 5, 1, 24, false, some [.nils]⟩),
 (25, ⟨.ifc, 1, 16, true, some [.ifc]⟩),
 (29, ⟨.int .i64, 1, 8, true, some [.int .i64]⟩),
 (35, ⟨.ptr 61, 1, 8, true, some [.ptr]⟩),
 (59, ⟨.sl 23, 1, 24, false, some [.nils]⟩),
 (61, ⟨.st [(23, 0), (59, 1), (3, 2)], 3, 56, false, some [.nils, .nils, .int .i64]⟩)]
def tab_nwc : Tab := fun t => (tabL_nwc).lookup t
theorem tabE_nwc : (tabL_nwc.map fun p => tiOf Try.prog p.1) = tabL_nwc.map fun p => some p.2 := by kernel_rfl
theorem tabO_nwc : TabOk Try.prog tab_nwc := tab_of tabE_nwc
def rWhole (n : Nat) (a0 : UInt8) : Option (Bool) :=
 gd ((32 : UInt8) ≠ 0) <|
 gd ((2 : UInt8) ≠ 0) <|
 some (((a0 / (32 : UInt8)) % (2 : UInt8)) == 1)
def code_l1 (n : Nat) (a0 : Option Int) : Nat → Int → Option (Int)
 | 0, _ => none
 | fu_l1 + 1, i3_1 =>
 bif (decide (i3_1 ≤ (17 : Int))) then
 gd (¬((a0 : Option Int) = none ∧ ((some i3_1) : Option Int) = none)) <|
 bif (a0 == (some i3_1)) then
 some i3_1
 else
 gd (okI .i64 (i3_1 + 1)) <|
 (code_l1 n a0 fu_l1) (i3_1 + 1)
 else
 some (-1)
def code (n : Nat) (a0 : Option Int) : Option (Int) :=
 bif ((a0).isNone) then
 some 0
 else
 code_l1 n a0 n 1
def rWhole_R (r : Bool) : S := ⟨[(2, kB r)], [], []⟩
def rWhole_ct (n : Nat) (r : Bool) : Ct := ctc rU8.rd fun _ l0 => ct0 fun H => ([rWhole n l0 = some r], shA H.length (kB r), shH H.length [])
theorem rWhole_ok (n : Nat) (r : Bool) : FnOk Try.prog Tr 33 (rWhole_ct n r) := by
 refine fnok Try.func33 ?_
 refine HO_c rU8 fun l0 _ => HO_0 tabO_nwc (rWhole_R r) [.tmp 2] [] 7 Try.func33 fun w hG h => ?_
 unfold rWhole at h
 have hT := tabO_nwc
 refine Vrs hT [] ⟨[(0, kU l0)], [], []⟩ ?_
 obtain ⟨g1, g2, h⟩ := gd2 h
 refine Vgs hT fN [] [] [] ⟨[(2, kB (((l0 / (32 : UInt8)) % (2 : UInt8)) == 1))], [], []⟩ (aP g1 (aP g2 aN)) ?_
 refine Vc [] [] (rWhole_R (((l0 / (32 : UInt8)) % (2 : UInt8)) == 1)) (W_ret ?_)
 exact ⟨.inl rfl, by cases h; rfl⟩
end Go.Proofs.Ytcdljciflkefaaa
end
section
namespace Go.Proofs.Ytcdljciflkefaaa
open Go.RowKit Go.Ch Go.Sx
def tabL_twa : List (TypeId × Ti) := [(3, ⟨.int .i64, 1, 8, true, some [.int .i64]⟩),
 (5, ⟨.int .u8, 1, 1, true, some [.int .u8]⟩),
 (9, ⟨.str, 1, 16, true, some [.str]⟩),
 (23, ⟨.sl 5, 1, 24, false, some [.nils]⟩),
 (25, ⟨.ifc, 1, 16, true, some [.ifc]⟩),
 (29, ⟨.int .i64, 1, 8, true, some [.int .i64]⟩),
 (32, ⟨.sl 38, 1, 24, false, some [.nils]⟩),
 (33, ⟨.ptr 58, 1, 8, true, some [.ptr]⟩),
 (38, ⟨.st [(3, 0), (5, 1), (23, 2)], 3, 40, false, some [.int .i64, .int .u8, .nils]⟩),
 (47, ⟨.ptr 68, 1, 8, true, some [.ptr]⟩),
 (64, ⟨.st [(5, 0), (23, 1)], 2, 32, false, some [.int .u8, .nils]⟩)]
def tab_twa : Tab := fun t => (tabL_twa).lookup t
theorem tabE_twa : (tabL_twa.map fun p => tiOf Try.prog p.1) = tabL_twa.map fun p => some p.2 := by kernel_rfl
theorem tabO_twa : TabOk Try.prog tab_twa := tab_of tabE_twa
def tup (n : Nat) : Option (Bool) :=
 (wNew n).bind fun r7 =>
 (tNewR n [2, 129, 1, 5]).bind fun r9 =>
 (wOpen1 n 0 [] 48).bind fun r17 =>
 (wPut2 n 0 [] 48 [] 2 [5]).bind fun r20 =>
 (wClose2 n 0 [] 48 r20).bind fun r22 =>
 (wBytes1 n 0 r22).bind fun r25 =>
 (tTake n r9.1 0 r9.2 2).bind fun r30 =>
 bif (r22 == ([48, 3, 2, 1, 5] : List UInt8)) then
  gd (¬((r30.2.2 : Option Int) = none ∧ ((some 2) : Option Int) = none)) <|
  some (r30.2.2 == (some 2))
 else
  some false
def tup_R (r : Bool) : S := ⟨[(0, kB r)], [], []⟩
def tup_ct (n : Nat) (r : Bool) : Ct := ct0 fun H => ([tup n = some r], shA H.length (kB r), shH H.length [])
theorem tup_ok (n : Nat) (r : Bool) : FnOk Try.prog Tr 7 (tup_ct n r) := by
 refine fnok Try.func7 ?_
 refine HO_0 tabO_twa (tup_R r) [.tmp 0] [] 45 Try.func7 fun w hG h => ?_
 unfold tup at h
 have hT := tabO_twa
 refine Vrs hT [] ⟨[], [], []⟩ ?_
 obtain ⟨r7, g1, h⟩ := bind_some' h
 refine Vgs hT (fT 0 (wNew_ok n r7) fN) [] [] [0, 1, 2] ⟨[(1, kP 0 0)], [], [⟨.blk, 58, 1, 2, .c [.wh 1, .s (.v .nilIface)]⟩, ⟨.row, 64, 2, 1, .c [.s (.u8 0), .wh 2]⟩, ⟨.row, 5, 1, 0, .b []⟩]⟩ (aP g1 aN) ?_
 obtain ⟨r9, g2, h⟩ := bind_some' h
 refine Vgs hT (fT 1 (tNewR_ok n r9) fN) [] [] [0, 1, 2, 4, 5, 6] ⟨[(1, kP 0 0), (2, kP 3 0)], [], [⟨.blk, 58, 1, 2, .c [.wh 1, .s (.v .nilIface)]⟩, ⟨.row, 64, 2, 1, .c [.s (.u8 0), .wh 2]⟩, ⟨.row, 5, 1, 0, .b []⟩, ⟨.blk, 68, 1, 3, .c [.wh 4, .s (.k .i64 0), .wh 5]⟩, nb 5 r9.1, nz 3 r9.2]⟩ (aP g2 aN) ?_
 refine W_seq ?_
 refine Vrs hT [0, 1, 2, 3, 4, 5] ⟨[(1, kP 0 0), (2, kP 3 0), (15, kB false)], [], [⟨.blk, 58, 1, 2, .c [.wh 1, .s (.v .nilIface)]⟩, ⟨.row, 64, 2, 1, .c [.s (.u8 0), .wh 2]⟩, ⟨.row, 5, 1, 0, .b []⟩, ⟨.blk, 68, 1, 3, .c [.wh 4, .s (.k .i64 0), .wh 5]⟩, nb 5 r9.1, nz 3 r9.2]⟩ ?_
 refine Vi (false) (fun hb => by cases hb) (fun _ => ?_)
 refine W_skip ?_
 obtain ⟨r17, g3, h⟩ := bind_some' h
 refine Vgs hT (fM 1 (wOpen1_ok n r17) fN) [] [] [0, 6, 7, 8, 3, 4, 5] ⟨[(1, kP 0 0), (2, kP 4 0)], [], [⟨.blk, 58, 1, 2, .c [.wh 1, .s (.er 29 .i64 none)]⟩, ⟨.row, 64, 2, 2, .c [.s (.u8 0), .wh 2, .s (.u8 48), .wh 3]⟩, nb 5 [], ⟨.row, 5, 1, 0, .b []⟩, ⟨.blk, 68, 1, 3, .c [.wh 5, .s (.k .i64 0), .wh 6]⟩, nb 5 r9.1, nz 3 r9.2]⟩ (aP g3 aN) ?_
 obtain ⟨r20, g4, h⟩ := bind_some' h
 refine Vgs hT (fM 2 (wPut2_ok n r20) fN) [] [] [0, 8, 9, 10, 4, 5, 6] ⟨[(1, kP 0 0), (2, kP 4 0)], [], [⟨.blk, 58, 1, 2, .c [.wh 1, .s (.er 29 .i64 none)]⟩, ⟨.row, 64, 2, 2, .c [.s (.u8 0), .wh 2, .s (.u8 48), .wh 3]⟩, nb 5 [], nb 5 r20, ⟨.blk, 68, 1, 3, .c [.wh 5, .s (.k .i64 0), .wh 6]⟩, nb 5 r9.1, nz 3 r9.2]⟩ (aP g4 aN) ?_
 obtain ⟨r22, g5, h⟩ := bind_some' h
 refine Vgs hT (fM 1 (wClose2_ok n r22) fN) [] [] [0, 7, 8, 4, 5, 6] ⟨[(1, kP 0 0), (2, kP 3 0)], [], [⟨.blk, 58, 1, 2, .c [.wh 1, .s (.er 29 .i64 none)]⟩, ⟨.row, 64, 2, 1, .c [.s (.u8 0), .wh 2]⟩, nb 5 r22, ⟨.blk, 68, 1, 3, .c [.wh 4, .s (.k .i64 0), .wh 5]⟩, nb 5 r9.1, nz 3 r9.2]⟩ (aP g5 aN) ?_
 obtain ⟨r25, g6, h⟩ := bind_some' h
 refine Vgs hT (fM 1 (wBytes1_ok n r25) fN) [] [] [3, 4, 5, 8] ⟨[(2, kP 0 0), (3, kH 3), (4, kE 29 none)], [], [⟨.blk, 68, 1, 3, .c [.wh 1, .s (.k .i64 0), .wh 2]⟩, nb 5 r9.1, nz 3 r9.2, nb 5 r22]⟩ (aP g6 aN) ?_
 obtain ⟨r30, g7, h⟩ := bind_some' h
 refine Vgs hT (fM 1 (tTake_ok n r30) fN) [] [] [3] ⟨[(3, kH 0), (4, kE 29 none), (6, kE 29 r30.2.2)], [], [nb 5 r22]⟩ (aP g7 aN) ?_
 refine W_seq ?_
 rcases Bool.eq_false_or_eq_true (r22 == ([48, 3, 2, 1, 5] : List UInt8)) with g8 | g8
 ·replace h := bif_t h g8
  obtain ⟨g9, h⟩ := gd_some h
  refine Vg hT fN [(7, true)] [] [] ⟨[(0, kB (r30.2.2 == (some 2)))], [], []⟩ (aP g8 (aP g9 aN)) ?_
  refine Vc [] [] (tup_R (r30.2.2 == (some 2))) (W_ret ?_)
  exact ⟨.inl rfl, by cases h; rfl⟩
 ·replace h := bif_f h g8
  refine Vg hT fN [(7, false)] [] [] ⟨[(0, kB false)], [], []⟩ (aP g8 aN) ?_
  refine Vc [] [] (tup_R false) (W_ret ?_)
  exact ⟨.inl rfl, by cases h; rfl⟩
end Go.Proofs.Ytcdljciflkefaaa
end
section
namespace Go.Sx
open Go Go.RowKit Go.Ch Go.Proofs.Ytcdljciflkefaaa
theorem mk_all : ∀ i : Fin 256, ((UInt8.ofNat i.1 &&& 31) != 31) = ((UInt8.ofNat i.1 % 32) != 31) := by decide +kernel
theorem mk_eq (x : UInt8) : ((x &&& 31) != 31) = ((x % 32) != 31) := by simpa using mk_all ⟨x.toNat, x.toNat_lt⟩
theorem tvalid_is (n : Nat) (x : UInt8) : tvalid n x = some (x % 32 != 31) := by unfold tvalid; rw [mk_eq]
theorem ofInt_mod (x : Int) : UInt8.ofInt (x % 256) = UInt8.ofInt x := by
 unfold UInt8.ofInt; congr 2; omega
def hdF (m : UInt8) (k : Int) : List UInt8 := bif decide (k < 128) then [m, UInt8.ofInt k] else bif decide (k < 256) then [m, 129, UInt8.ofInt k] else [m, 130, UInt8.ofInt (k / 256), UInt8.ofInt k]
theorem hdF_len (m : UInt8) (k : Int) : (hdF m k).length ≤ 4 := by
 unfold hdF; cases decide (k < 128) with
 | true => simp
 | false => cases decide (k < 256) with
  | true => simp
  | false => simp
theorem tHead_is (n : Nat) {m : UInt8} {k : Int} (hm : (m % 32 != 31) = true) (h0 : 0 ≤ k) (h1 : k ≤ 65535) : tHead n m k = some (hdF m k, none) := by
 unfold tHead hdF
 rw [tvalid_is, Option.bind_some, ite_f (by rw [hm]; rfl), ite_f (decide_eq_false (by omega)), ite_f (decide_eq_false (by omega))]
 cases decide (k < 128) with
 | true => rfl
 | false => cases decide (k < 256) with
  | true => rfl
  | false => simp only [cond_false]; rw [gd_pos (by decide), gd_pos (by decide)]; rfl
theorem u8lt (x : UInt8) : x.toNat < 256 := x.toNat_lt
theorem bor8 {i : Int} {x : Nat} (hx : x < 256) (h1 : -9223372036854775808 ≤ i * 256) (h2 : i * 256 + x < 9223372036854775808) : bitI .or .i64 (i * 2 ^ 8) (x : Int) = i * 256 + x := by
 have e : (i * 2 ^ 8 : Int) = i * 256 := by rfl
 rw [e]
 unfold bitI
 show IntKind.i64.wrap (((BitVec.ofInt 64 (i * 256) ||| BitVec.ofInt 64 (x : Int)).toNat : Nat) : Int) = _
 have hX : (BitVec.ofInt 64 (x : Int)).toNat = x := by rw [BitVec.toNat_ofInt]; omega
 have hI : (BitVec.ofInt 64 (i * 256)).toNat = (i % 2 ^ 56).toNat * 256 := by rw [BitVec.toNat_ofInt]; omega
 have ho : (BitVec.ofInt 64 (i * 256) ||| BitVec.ofInt 64 (x : Int)).toNat = (i % 2 ^ 56).toNat * 256 + x := by
  rw [BitVec.toNat_or, hX, hI]
  have := Nat.shiftLeft_add_eq_or_of_lt (i := 8) (show x < 2 ^ 8 from hx) (i % 2 ^ 56).toNat
  rw [Nat.shiftLeft_eq] at this
  exact this.symm
 rw [ho]
 unfold IntKind.wrap
 simp [IntKind.bits, IntKind.signed]
 omega
theorem wh_all : ∀ i : Fin 256, (((UInt8.ofNat i.1 / 32) % 2) == 1) = ((UInt8.ofNat i.1 &&& 32) != 0) := by decide +kernel
theorem wh_eq (x : UInt8) : (((x / 32) % 2) == 1) = ((x &&& 32) != 0) := by simpa using wh_all ⟨x.toNat, x.toNat_lt⟩
def whV (m : UInt8) : Bool := (m &&& 32) != 0
theorem tisW_is (n : Nat) (m : UInt8) : tisW n m = some (whV m) := rfl
theorem rWhole_is (n : Nat) (m : UInt8) : rWhole n m = some (whV m) := by unfold rWhole; rw [gd_pos (by decide), gd_pos (by decide), wh_eq]; rfl
theorem snoc_of_ne {α : Type} {l : List α} (h : l ≠ []) : ∃ l0 y, l = l0 ++ [y] := ⟨l.dropLast, l.getLast h, (List.dropLast_concat_getLast h).symm⟩
theorem rm1 {k : Nat} (h : k ≤ 1000000) : rmB k 1 := by unfold rmB; omega
theorem wadd_is (n : Nat) {d0 : List (UInt8 × List UInt8)} {m0 m : UInt8} {b0 b : List UInt8} (hm : (m % 32 != 31) = true) (hb : b.length ≤ 65535) (hb0 : b0.length ≤ 65535) (hd : d0.length ≤ 1000) :
  wadd n (d0 ++ [(m0, b0)]) none m b = some (d0 ++ [(m0, b0 ++ hdF m (b.length : Int) ++ b)], none) := by
 have hl : (d0 ++ [(m0, b0)]).length = d0.length + 1 := by simp
 have h4 := hdF_len m (b.length : Int)
 unfold wadd
 rw [tHead_is n hm (by omega) (by omega), Option.bind_some, ite_f (by rfl), hl, gd_pos (okI64 (by omega) (by omega)), gd_pos (by omega), gd_pos (by omega), lastS_app, Option.bind_some,
  gd_pos (by omega), gd_pos (by show _ = d0.length * 2 + 1; omega), gd_pos (rm1 (show b0.length + (hdF m (b.length : Int)).length ≤ 1000000 by omega)), gd_pos (rm1 (show (b0 ++ hdF m (b.length : Int)).length + b.length ≤ 1000000 by rw [List.length_append]; omega)), gd_pos (by omega), gd_pos (by show _ = d0.length * 2 + 1; omega)]
def tot (bs : List (List UInt8)) : Nat := (bs.map List.length).sum
def ErI (e : Option Int) (bad : Int) : Prop := (e = none ∧ bad = 0) ∨ ∃ k, e = some k ∧ bad = k ∧ (k = 1 ∨ k = 4 ∨ k = 5 ∨ k = 17)
structure WI (T : Nat) (d : List (UInt8 × List UInt8)) (e : Option Int) (ms : List UInt8) (bs : List (List UInt8)) (bad : Int) : Prop where
 hbs : bs = d.map (·.2)
 hms : d.map (·.1) = 0 :: ms
 va : ∀ m ∈ ms, (m % 32 != 31) = true
 er : ErI e bad
 tt : tot bs ≤ T
 lv : ms.length ≤ 24
section
variable {T n : Nat} {d : List (UInt8 × List UInt8)} {e : Option Int} {ms : List UInt8} {bs : List (List UInt8)} {bad : Int}
theorem WI.mono {T' : Nat} (h : WI T d e ms bs bad) (hT : T ≤ T') : WI T' d e ms bs bad := ⟨h.hbs, h.hms, h.va, h.er, Nat.le_trans h.tt hT, h.lv⟩
theorem WI.len (h : WI T d e ms bs bad) : d.length = ms.length + 1 := by have := congrArg List.length h.hms; simpa using this
theorem wClose_is (n : Nat) {d1 : List (UInt8 × List UInt8)} {m1 m : UInt8} {b1 b : List UInt8} (hm : (m % 32 != 31) = true) (hb : b.length ≤ 65535) (hb1 : b1.length ≤ 65535) (hd : d1.length ≤ 900) :
  wClose n ((d1 ++ [(m1, b1)]) ++ [(m, b)]) none = some (d1 ++ [(m1, b1 ++ hdF m (b.length : Int) ++ b)], none) := by
 have hL : ((d1 ++ [(m1, b1)]) ++ [(m, b)]).length = d1.length + 2 := by simp
 have hD : (d1 ++ [(m1, b1)]).length = d1.length + 1 := by simp
 unfold wClose
 rw [hL, ite_f (by rfl), ite_f (by rw [beq_eq_false_iff_ne]; omega), lastS_app, Option.bind_some, gd_pos (okI64 (by omega) (by omega)), gd_pos (by omega), gd_pos (by omega), gd_pos (by show _ = (d1 ++ [(m1, b1)]).length * 2; rw [hD]; omega),
  gd_pos (okI64 (by omega) (by omega)), gd_pos (by omega), gd_pos (by omega), gd_pos (by show _ = (d1 ++ [(m1, b1)]).length; rw [hD]; omega), wadd_is n hm (by omega) (by omega) (by omega)]
 rfl
end
end Go.Sx
end
section
namespace Go.Sx
open Go Go.RowKit Go.Ch Go.Proofs.Ytcdljciflkefaaa
def elF (m : UInt8) (b : List UInt8) : List UInt8 := hdF m (b.length : Int) ++ b
def mkV (m : UInt8) : Bool := m % 32 != 31
theorem tvalid_v (n : Nat) (m : UInt8) : tvalid n m = some (mkV m) := tvalid_is n m
def bN (b : List UInt8) (i : Nat) : Nat := (b.getD i 0).toNat
theorem bN_lt (b : List UInt8) (i : Nat) : bN b i < 256 := u8lt _
def hJ (b : List UInt8) (i v : Nat) : Int × Int × Bool := ((i : Int), (v : Int), decide (i + v ≤ b.length))
def hR (b : List UInt8) : Int × Int × Bool :=
 if b.length < 2 ∨ mkV (b.getD 0 0) = false then (0, 0, false)
 else if bN b 1 < 128 then hJ b 2 (bN b 1)
 else if bN b 1 = 129 then (if b.length < 3 ∨ bN b 2 < 128 then (0, 0, false) else hJ b 3 (bN b 2))
 else if bN b 1 = 130 then (if b.length < 4 ∨ bN b 2 * 256 + bN b 3 < 256 then (0, 0, false) else hJ b 4 (bN b 2 * 256 + bN b 3))
 else (0, 0, false)
theorem j1_hJ (n : Nat) {b : List UInt8} (hb : b.length ≤ 1000000) {i : Nat} (hi : i ≤ b.length) (v : Nat) : thead_j1 n b (i : Int) (v : Int) = some (hJ b i v) := by
 unfold thead_j1 hJ
 rw [gd_pos (okI64 (by omega) (by omega))]
 have e : decide ((v : Int) ≤ ((b.length : Nat) : Int) - (i : Int)) = decide (i + v ≤ b.length) := decide_eq_decide.2 (by omega)
 rw [e]
theorem getD_dt (b : List UInt8) (k j : Nat) (h : j < k) : ((b.drop 2).take k).getD j 0 = b.getD (2 + j) 0 := by
 rw [List.getD_eq_getElem?_getD, List.getElem?_take, if_pos h, List.getElem?_drop, ← List.getD_eq_getElem?_getD]
theorem l1_one (n : Nat) {b : List UInt8} (hb : b.length ≤ 1000000) (h1 : bN b 1 = 129) (h3 : 3 ≤ b.length) (fu : Nat) : thead_l1 n b (fu + 2) 0 0 = some (if bN b 2 < 128 then (0, 0, false) else hJ b 3 (bN b 2)) := by
 have e1 : ((((b.getD 1 0).toNat : Nat) : Int) - 128) = 1 := by have : (b.getD 1 0).toNat = 129 := h1; omega
 have hx := bN_lt b 2
 rw [thead_l1]
 simp only [e1]
 rw [ite_t (by decide), gd_pos (by decide), gd_pos (by decide), gd_pos (by decide), gd_pos (by decide), gd_pos (okI64 (by decide) (by decide)), gd_pos (okI64 (by decide) (by decide))]
 have e2 : (((b.drop 2).take ((2 + (1 : Int)).toNat - 2)).getD (0 : Int).toNat 0) = b.getD 2 0 := getD_dt b 1 0 (by decide)
 rw [e2, bor8 (u8lt _) (by decide) (by have := u8lt (b.getD 2 0); omega), thead_l1]
 simp only [e1]
 rw [ite_f (by decide), show (0 : Int) * 256 + (((b.getD 2 0).toNat : Nat) : Int) = ((bN b 2 : Nat) : Int) by unfold bN; omega]
 by_cases hv : bN b 2 < 128
 ·rw [ite_t (decide_eq_true (by omega)), if_pos hv]
 ·rw [ite_f (decide_eq_false (by omega)), if_neg hv, ite_f (by decide)]
  exact j1_hJ n hb h3 _
theorem l1_two (n : Nat) {b : List UInt8} (hb : b.length ≤ 1000000) (h1 : bN b 1 = 130) (h4 : 4 ≤ b.length) (fu : Nat) : thead_l1 n b (fu + 3) 0 0 = some (if bN b 2 * 256 + bN b 3 < 256 then (0, 0, false) else hJ b 4 (bN b 2 * 256 + bN b 3)) := by
 have e1 : ((((b.getD 1 0).toNat : Nat) : Int) - 128) = 2 := by have : (b.getD 1 0).toNat = 130 := h1; omega
 have hx := bN_lt b 2
 have hy := bN_lt b 3
 rw [thead_l1]
 simp only [e1]
 rw [ite_t (by decide), gd_pos (by decide), gd_pos (by decide), gd_pos (by decide), gd_pos (by decide), gd_pos (okI64 (by decide) (by decide)), gd_pos (okI64 (by decide) (by decide))]
 have e2 : (((b.drop 2).take ((2 + (2 : Int)).toNat - 2)).getD (0 : Int).toNat 0) = b.getD 2 0 := getD_dt b 2 0 (by decide)
 have e3 : (((b.drop 2).take ((2 + (2 : Int)).toNat - 2)).getD (0 + 1 : Int).toNat 0) = b.getD 3 0 := getD_dt b 2 1 (by decide)
 rw [e2, bor8 (u8lt _) (by decide) (by have := u8lt (b.getD 2 0); omega), show (0 : Int) * 256 + (((b.getD 2 0).toNat : Nat) : Int) = ((bN b 2 : Nat) : Int) by unfold bN; omega, thead_l1]
 simp only [e1]
 rw [ite_t (by decide), gd_pos (by decide), gd_pos (by decide), gd_pos (by decide), gd_pos (by decide), gd_pos (okI64 (by omega) (by omega)), gd_pos (okI64 (by decide) (by decide)), e3, bor8 (u8lt _) (by omega) (by have := u8lt (b.getD 3 0); omega), thead_l1]
 simp only [e1]
 rw [ite_f (by decide), show ((bN b 2 : Nat) : Int) * 256 + (((b.getD 3 0).toNat : Nat) : Int) = ((bN b 2 * 256 + bN b 3 : Nat) : Int) by unfold bN; omega]
 by_cases hv : bN b 2 * 256 + bN b 3 < 256
 ·rw [if_pos hv]
  by_cases hw : bN b 2 * 256 + bN b 3 < 128
  ·rw [ite_t (decide_eq_true (by omega))]
  ·rw [ite_f (decide_eq_false (by omega)), ite_t (by decide), ite_t (decide_eq_true (by omega))]
 ·rw [if_neg hv, ite_f (decide_eq_false (by omega)), ite_t (by decide), ite_f (decide_eq_false (by omega))]
  exact j1_hJ n hb h4 _
theorem thead_cf {n : Nat} (hn : 3 ≤ n) {b : List UInt8} (hb : b.length ≤ 1000000) : thead n b = some (hR b) := by
 unfold thead hR
 by_cases h2 : b.length < 2
 ·rw [ite_t (decide_eq_true (by omega)), if_pos (.inl h2)]
 ·rw [ite_f (decide_eq_false (by omega)), gd_pos (by omega), gd_pos (by omega), tvalid_v, Option.bind_some]
  cases hm : mkV (b.getD 0 0) with
  | false => rw [if_pos (.inr rfl)]; rfl
  | true =>
   rw [ite_f (by rfl), if_neg (by rintro (h | h); exact h2 h; cases h), gd_pos (by omega), gd_pos (by omega)]
   have hx := bN_lt b 1
   have hxe : (((b.getD 1 0).toNat : Nat) : Int) = ((bN b 1 : Nat) : Int) := rfl
   by_cases h8 : bN b 1 < 128
   ·rw [if_pos h8, ite_f (decide_eq_false (by omega))]
    exact j1_hJ n hb (show 2 ≤ b.length by omega) _
   ·rw [if_neg h8, ite_t (decide_eq_true (by omega)), gd_pos (okI64 (by omega) (by omega))]
    by_cases h128 : bN b 1 = 128
    ·rw [ite_t (decide_eq_true (by omega)), if_neg (by omega), if_neg (by omega)]
    ·rw [ite_f (decide_eq_false (by omega))]
     by_cases h9 : bN b 1 = 129
     ·rw [if_pos h9, ite_f (decide_eq_false (by omega)), gd_pos (okI64 (by omega) (by omega))]
      by_cases h3 : b.length < 3
      ·rw [ite_t (decide_eq_true (by omega)), if_pos (.inl h3)]
      ·rw [ite_f (decide_eq_false (by omega)), gd_pos (okI64 (by omega) (by omega)), gd_pos (by omega), gd_pos (by omega), gd_pos (by omega)]
       obtain ⟨fu, rfl⟩ : ∃ fu, n = fu + 2 := ⟨n - 2, by omega⟩
       rw [l1_one _ hb h9 (by omega)]
       by_cases hv : bN b 2 < 128
       ·rw [if_pos hv, if_pos (.inr hv)]
       ·rw [if_neg hv, if_neg (by rintro (h | h); exact h3 h; exact hv h)]
     ·rw [if_neg h9]
      by_cases h10 : bN b 1 = 130
      ·rw [if_pos h10, ite_f (decide_eq_false (by omega)), gd_pos (okI64 (by omega) (by omega))]
       by_cases h3 : b.length < 4
       ·rw [ite_t (decide_eq_true (by omega)), if_pos (.inl h3)]
       ·rw [ite_f (decide_eq_false (by omega)), gd_pos (okI64 (by omega) (by omega)), gd_pos (by omega), gd_pos (by omega), gd_pos (by omega)]
        obtain ⟨fu, rfl⟩ : ∃ fu, n = fu + 3 := ⟨n - 3, by omega⟩
        rw [l1_two _ hb h10 (by omega)]
        by_cases hv : bN b 2 * 256 + bN b 3 < 256
        ·rw [if_pos hv, if_pos (.inr hv)]
        ·rw [if_neg hv, if_neg (by rintro (h | h); exact h3 h; exact hv h)]
      ·rw [if_neg h10, ite_t (decide_eq_true (by omega))]
def elO (L : List UInt8) : Option (UInt8 × List UInt8 × List UInt8) :=
 if (hR L).2.2 = true then some (L.getD 0 0, (L.drop (hR L).1.toNat).take (hR L).2.1.toNat, L.drop ((hR L).1.toNat + (hR L).2.1.toNat)) else none
theorem ofInt_lt {k : Nat} (h : k < 256) : (UInt8.ofInt (k : Int)).toNat = k := by
 unfold UInt8.ofInt; simp; omega
theorem ofInt_bN (b : List UInt8) (i : Nat) : UInt8.ofInt ((bN b i : Nat) : Int) = b.getD i 0 := by
 apply UInt8.toNat_inj.1; rw [ofInt_lt (bN_lt b i)]; rfl
theorem take2 {b : List UInt8} (h : 2 ≤ b.length) : b.take 2 = [b.getD 0 0, b.getD 1 0] := by
 match b, h with
 | x :: y :: t, _ => rfl
theorem take3 {b : List UInt8} (h : 3 ≤ b.length) : b.take 3 = [b.getD 0 0, b.getD 1 0, b.getD 2 0] := by
 match b, h with
 | x :: y :: z :: t, _ => rfl
theorem take4 {b : List UInt8} (h : 4 ≤ b.length) : b.take 4 = [b.getD 0 0, b.getD 1 0, b.getD 2 0, b.getD 3 0] := by
 match b, h with
 | x :: y :: z :: u :: t, _ => rfl
theorem hR_some {b : List UInt8} (h : (hR b).2.2 = true) : ∃ k : Nat, (hR b).2.1 = (k : Int) ∧ k ≤ 65535 ∧ mkV (b.getD 0 0) = true ∧ (hR b).1 = (((hdF (b.getD 0 0) k).length : Nat) : Int) ∧ b.take (hdF (b.getD 0 0) k).length = hdF (b.getD 0 0) k ∧ (hdF (b.getD 0 0) k).length + k ≤ b.length := by
 unfold hR at h ⊢
 by_cases h1 : b.length < 2 ∨ mkV (b.getD 0 0) = false
 ·rw [if_pos h1] at h; cases h
 ·have hm : mkV (b.getD 0 0) = true := by cases hm : mkV (b.getD 0 0) with | true => rfl | false => exact absurd (.inr hm) h1
  have h2 : 2 ≤ b.length := by by_cases h2 : b.length < 2; exact absurd (.inl h2) h1; omega
  rw [if_neg h1] at h ⊢
  by_cases h8 : bN b 1 < 128
  ·rw [if_pos h8] at h ⊢
   have hle := of_decide_eq_true (show decide (2 + bN b 1 ≤ b.length) = true from h)
   have e : hdF (b.getD 0 0) ((bN b 1 : Nat) : Int) = [b.getD 0 0, b.getD 1 0] := by unfold hdF; rw [ite_t (decide_eq_true (by omega)), ofInt_bN]
   exact ⟨bN b 1, rfl, by omega, hm, by rw [e]; rfl, by rw [e]; exact take2 h2, by rw [e]; exact hle⟩
  ·rw [if_neg h8] at h ⊢
   by_cases h9 : bN b 1 = 129
   ·rw [if_pos h9] at h ⊢
    by_cases h3 : b.length < 3 ∨ bN b 2 < 128
    ·rw [if_pos h3] at h; cases h
    ·rw [if_neg h3] at h ⊢
     have hle := of_decide_eq_true (show decide (3 + bN b 2 ≤ b.length) = true from h)
     have hx := bN_lt b 2
     have h3a : 3 ≤ b.length := by omega
     have h3b : ¬ bN b 2 < 128 := fun h => h3 (.inr h)
     have e1 : b.getD 1 0 = 129 := UInt8.toNat_inj.1 h9
     have e : hdF (b.getD 0 0) ((bN b 2 : Nat) : Int) = [b.getD 0 0, b.getD 1 0, b.getD 2 0] := by unfold hdF; rw [ite_f (decide_eq_false (by omega)), ite_t (decide_eq_true (by omega)), ofInt_bN, e1]
     exact ⟨bN b 2, rfl, by omega, hm, by rw [e]; rfl, by rw [e]; exact take3 h3a, by rw [e]; exact hle⟩
   ·rw [if_neg h9] at h ⊢
    by_cases h10 : bN b 1 = 130
    ·rw [if_pos h10] at h ⊢
     by_cases h3 : b.length < 4 ∨ bN b 2 * 256 + bN b 3 < 256
     ·rw [if_pos h3] at h; cases h
     ·rw [if_neg h3] at h ⊢
      have hle := of_decide_eq_true (show decide (4 + (bN b 2 * 256 + bN b 3) ≤ b.length) = true from h)
      have hx := bN_lt b 2
      have hy := bN_lt b 3
      have h3b : ¬ bN b 2 * 256 + bN b 3 < 256 := fun h => h3 (.inr h)
      have e1 : b.getD 1 0 = 130 := UInt8.toNat_inj.1 h10
      have e2 : UInt8.ofInt (((bN b 2 * 256 + bN b 3 : Nat) : Int) / 256) = b.getD 2 0 := by
       rw [show ((bN b 2 * 256 + bN b 3 : Nat) : Int) / 256 = ((bN b 2 : Nat) : Int) by omega]; exact ofInt_bN b 2
      have e3 : UInt8.ofInt ((bN b 2 * 256 + bN b 3 : Nat) : Int) = b.getD 3 0 := by
       rw [← ofInt_mod, show ((bN b 2 * 256 + bN b 3 : Nat) : Int) % 256 = ((bN b 3 : Nat) : Int) by omega]; exact ofInt_bN b 3
      have e : hdF (b.getD 0 0) ((bN b 2 * 256 + bN b 3 : Nat) : Int) = [b.getD 0 0, b.getD 1 0, b.getD 2 0, b.getD 3 0] := by unfold hdF; rw [ite_f (decide_eq_false (by omega)), ite_f (decide_eq_false (by omega)), e2, e3, e1]
      exact ⟨bN b 2 * 256 + bN b 3, rfl, by omega, hm, by rw [e]; rfl, by rw [e]; exact take4 (by omega), by rw [e]; exact hle⟩
    ·rw [if_neg h10] at h; cases h
theorem elO_some {L : List UInt8} {m : UInt8} {body rest : List UInt8} (h : elO L = some (m, body, rest)) : L = elF m body ++ rest ∧ mkV m = true ∧ body.length ≤ 65535 ∧ (hR L).2.2 = true ∧ (hR L).1 = (((hdF m (body.length : Int)).length : Nat) : Int) ∧ (hR L).2.1 = (body.length : Int) ∧ L.getD 0 0 = m := by
 unfold elO at h
 split at h
 ·rename_i hr
  obtain ⟨k, h1, h2, h3, h4, h5, h6⟩ := hR_some hr
  rw [h1, h4] at h
  simp only [Int.toNat_natCast, Option.some.injEq, Prod.mk.injEq] at h
  obtain ⟨rfl, rfl, rfl⟩ := h
  have hl : ((L.drop (hdF (L.getD 0 0) k).length).take k).length = k := by rw [List.length_take, List.length_drop]; omega
  refine ⟨?_, h3, by rw [hl]; exact h2, hr, by rw [hl]; exact h4, by rw [hl]; exact h1, rfl⟩
  unfold elF
  rw [hl]
  have e0 := List.take_append_drop (hdF (L.getD 0 0) (k : Int)).length L
  rw [h5] at e0
  rw [List.append_assoc]
  refine e0.symm.trans (congrArg _ ?_)
  have e := List.take_append_drop k (L.drop (hdF (L.getD 0 0) (k : Int)).length)
  rw [List.drop_drop] at e
  exact e.symm
 ·cases h
structure At0 (b : List UInt8) (at_ e : Nat) (L : List UInt8) : Prop where
 rest : ∃ T, b.drop at_ = L ++ T
 fin : e = at_ + L.length
 le : e ≤ b.length
theorem At0.left {b : List UInt8} {at_ e : Nat} {L : List UInt8} (h : At0 b at_ e L) : (b.drop at_).take (e - at_) = L := by
 obtain ⟨T, hT⟩ := h.rest
 rw [hT, h.fin, Nat.add_sub_cancel_left, List.take_left]
theorem At0.step {b : List UInt8} {at_ e : Nat} {X Y : List UInt8} (h : At0 b at_ e (X ++ Y)) : At0 b (at_ + X.length) e Y := by
 obtain ⟨T, hT⟩ := h.rest
 refine ⟨⟨T, ?_⟩, by have := h.fin; rw [List.length_append] at this; omega, h.le⟩
 rw [← List.drop_drop, hT, List.append_assoc, List.drop_left]
theorem At0.into {b : List UInt8} {at_ e : Nat} {X Y : List UInt8} (h : At0 b at_ e (X ++ Y)) : At0 b at_ (at_ + X.length) X := by
 obtain ⟨T, hT⟩ := h.rest
 exact ⟨⟨Y ++ T, by rw [hT, List.append_assoc]⟩, rfl, by have := h.fin; have := h.le; rw [List.length_append] at *; omega⟩
theorem ends_last (es : List Int) (e : Nat) : (es ++ [(e : Int)]).getD (((((es ++ [(e : Int)]).length : Nat) : Int) - 1).toNat) 0 = (e : Int) := by
 have : ((((es ++ [(e : Int)]).length : Nat) : Int) - 1).toNat = es.length := by simp
 rw [this, List.getD_eq_getElem?_getD, List.getElem?_append_right (Nat.le_refl _), Nat.sub_self]; rfl
theorem tleft_at (n : Nat) {b : List UInt8} {at_ e : Nat} {L : List UInt8} (h : At0 b at_ e L) (es : List Int) (hes : es.length ≤ 1000) (hb : b.length ≤ 1000000) : tleft n b (at_ : Int) (es ++ [(e : Int)]) = some (at_, e - at_) := by
 have h1 := h.fin; have h2 := h.le
 unfold tleft
 rw [ends_last]
 have hl : (es ++ [(e : Int)]).length = es.length + 1 := by simp
 rw [gd_pos (okI64 (by omega) (by omega)), gd_pos (by omega), gd_pos (by omega), gd_pos (by omega), gd_pos (by omega), gd_pos (by omega)]
 rfl
theorem At0.nil {b : List UInt8} {at_ e : Nat} {L : List UInt8} (h : At0 b at_ e L) : (((e - at_ : Nat) : Int) == 0) = L.isEmpty := by
 have := h.fin
 cases L with
 | nil => simp at this; subst this; simp
 | cons x t => simp at this; simp; omega
theorem At0.hd {b : List UInt8} {at_ e : Nat} {L : List UInt8} (h : At0 b at_ e L) (hn : L ≠ []) : b.getD (oddA at_ 0) 0 = L.getD 0 0 := by
 obtain ⟨T, hT⟩ := h.rest
 have e0 : oddA at_ 0 = at_ := by cases at_ <;> rfl
 rw [e0]
 have : b.getD at_ 0 = (b.drop at_).getD 0 0 := by rw [getD_drop]; rfl
 rw [this, hT]
 cases L with
 | nil => exact absurd rfl hn
 | cons x t => rfl
theorem tNext_at (n : Nat) {b : List UInt8} {at_ e : Nat} {L : List UInt8} (h : At0 b at_ e L) (es : List Int) (hes : es.length ≤ 1000) (hb : b.length ≤ 1000000) : tNext n b (at_ : Int) (es ++ [(e : Int)]) = some (if L = [] then (0, false) else (L.getD 0 0, true)) := by
 unfold tNext
 rw [tleft_at n h es hes hb, Option.bind_some]
 simp only []
 rw [h.nil]
 cases L with
 | nil => rfl
 | cons x t =>
  have h1 := h.fin
  simp only [List.length_cons] at h1
  rw [show (x :: t).isEmpty = false from rfl, cond_false, gd_pos (by omega), gd_pos (by omega), h.hd (List.cons_ne_nil _ _), if_neg (List.cons_ne_nil _ _)]
theorem elO_nil : elO [] = none := rfl
theorem tTake_at {n : Nat} (hn : 3 ≤ n) {b : List UInt8} {at_ e : Nat} {L : List UInt8} (h : At0 b at_ e L) (es : List Int) (hes : es.length ≤ 1000) (hb : b.length ≤ 1000000) (m : UInt8) :
  (∃ body rest, elO L = some (m, body, rest) ∧ whV m = false ∧ tTake n b (at_ : Int) (es ++ [(e : Int)]) m = some (((at_ + (elF m body).length : Nat) : Int), body, none)) ∨ ((∃ c, tTake n b (at_ : Int) (es ++ [(e : Int)]) m = some ((at_ : Int), [], some c)) ∧ ∀ body rest, elO L = some (m, body, rest) → whV m = true) := by
 unfold tTake
 rw [tleft_at n h es hes hb, Option.bind_some]
 simp only []
 rw [h.nil, h.left]
 by_cases hL : L = []
 ·subst hL; exact .inr ⟨⟨_, rfl⟩, fun body rest h => by rw [elO_nil] at h; cases h⟩
 ·have hlen : 0 < L.length := List.length_pos_iff.2 hL
  have h1 := h.fin; have h2 := h.le
  rw [show L.isEmpty = false by cases L with | nil => exact absurd rfl hL | cons _ _ => rfl, cond_false, gd_pos (by omega), gd_pos (by omega), h.hd hL]
  by_cases hm : L.getD 0 0 = m
  ·rw [ite_f (by rw [hm]; simp), thead_cf hn (by omega), Option.bind_some]
   cases hr : (hR L).2.2 with
   | false => exact .inr ⟨⟨_, rfl⟩, fun body rest h => by unfold elO at h; rw [hr] at h; cases h⟩
   | true =>
    rw [show (!true) = false from rfl, cond_false, tisW_is, Option.bind_some]
    have he : ∃ body rest, elO L = some (m, body, rest) := ⟨_, _, by unfold elO; rw [if_pos hr, hm]⟩
    obtain ⟨body, rest, he⟩ := he
    obtain ⟨k1, k2, k3, k4, k5, k6, k7⟩ := elO_some he
    cases hw : whV m with
    | true => exact .inr ⟨⟨_, rfl⟩, fun _ _ _ => rfl⟩
    | false =>
     rw [cond_false, k5, k6]
     have hhd := hdF_len m (body.length : Int)
     have hel : (elF m body).length = (hdF m (body.length : Int)).length + body.length := by unfold elF; rw [List.length_append]
     have hLl : L.length = (elF m body).length + rest.length := (congrArg List.length k1).trans List.length_append
     rw [gd_pos (okI64 (by omega) (by omega)), gd_pos (okI64 (by omega) (by omega)), gd_pos (okI64 (by omega) (by omega)), gd_pos (by omega), gd_pos (by omega), gd_pos (by omega)]
     have ea : oddA at_ ((((hdF m (body.length : Int)).length : Nat) : Int).toNat) = at_ + (hdF m (body.length : Int)).length := by rw [oddA_eq, Int.toNat_natCast]
     have eb : ((b.drop (at_ + (hdF m (body.length : Int)).length)).take (((((((hdF m (body.length : Int)).length : Nat) : Int) + (body.length : Int)).toNat) - ((((hdF m (body.length : Int)).length : Nat) : Int).toNat)))) = body := by
      obtain ⟨T, hT⟩ := h.rest
      rw [← List.drop_drop, hT, k1]
      unfold elF
      rw [List.append_assoc, List.append_assoc, List.drop_left, show (((((hdF m (body.length : Int)).length : Nat) : Int) + (body.length : Int)).toNat) - ((((hdF m (body.length : Int)).length : Nat) : Int).toNat) = body.length by omega, List.take_left]
     rw [ea, eb, gd_pos (by omega)]
     exact .inl ⟨body, rest, he, rfl, by rw [hel, Int.natCast_add, Int.natCast_add]⟩
  ·rw [ite_t (by simpa using hm)]
   exact .inr ⟨⟨_, rfl⟩, fun body rest h => absurd (elO_some h).2.2.2.2.2.2 hm⟩
theorem tEnter_at {n : Nat} (hn : 3 ≤ n) {b : List UInt8} {at_ e : Nat} {L : List UInt8} (h : At0 b at_ e L) (es : List Int) (hes : es.length ≤ 23) (hb : b.length ≤ 1000000) (m : UInt8) :
  (∃ body rest, elO L = some (m, body, rest) ∧ whV m = true ∧ tEnter n b (at_ : Int) (es ++ [(e : Int)]) m = some (((at_ + (hdF m (body.length : Int)).length : Nat) : Int), (es ++ [(e : Int)]) ++ [((at_ + (elF m body).length : Nat) : Int)], none)) ∨ ((∃ c, tEnter n b (at_ : Int) (es ++ [(e : Int)]) m = some ((at_ : Int), es ++ [(e : Int)], some c)) ∧ ∀ body rest, elO L = some (m, body, rest) → whV m = false) := by
 unfold tEnter
 rw [tleft_at n h es (by omega) hb, Option.bind_some]
 simp only []
 rw [h.nil, h.left]
 by_cases hL : L = []
 ·subst hL; exact .inr ⟨⟨_, rfl⟩, fun body rest h => by rw [elO_nil] at h; cases h⟩
 ·have hlen : 0 < L.length := List.length_pos_iff.2 hL
  have h1 := h.fin; have h2 := h.le
  rw [show L.isEmpty = false by cases L with | nil => exact absurd rfl hL | cons _ _ => rfl, cond_false, gd_pos (by omega), gd_pos (by omega), h.hd hL]
  by_cases hm : L.getD 0 0 = m
  ·rw [ite_f (by rw [hm]; simp), thead_cf hn (by omega), Option.bind_some]
   cases hr : (hR L).2.2 with
   | false => exact .inr ⟨⟨_, rfl⟩, fun body rest h => by unfold elO at h; rw [hr] at h; cases h⟩
   | true =>
    rw [show (!true) = false from rfl, cond_false, tisW_is, Option.bind_some]
    have he : ∃ body rest, elO L = some (m, body, rest) := ⟨_, _, by unfold elO; rw [if_pos hr, hm]⟩
    obtain ⟨body, rest, he⟩ := he
    obtain ⟨k1, k2, k3, k4, k5, k6, k7⟩ := elO_some he
    cases hw : whV m with
    | false => exact .inr ⟨⟨_, rfl⟩, fun _ _ _ => rfl⟩
    | true =>
     rw [show (!true) = false from rfl, cond_false, k5, k6]
     have hhd := hdF_len m (body.length : Int)
     have hel : (elF m body).length = (hdF m (body.length : Int)).length + body.length := by unfold elF; rw [List.length_append]
     have hl : (es ++ [(e : Int)]).length = es.length + 1 := by simp
     rw [ite_f (decide_eq_false (by omega)), gd_pos (okI64 (by omega) (by omega)), gd_pos (okI64 (by omega) (by omega)), gd_pos (by unfold rmB; omega)]
     exact .inl ⟨body, rest, he, rfl, by rw [hel, Int.natCast_add, Int.natCast_add, Int.natCast_add, Int.add_assoc]⟩
  ·rw [ite_t (by simpa using hm)]
   exact .inr ⟨⟨_, rfl⟩, fun body rest h => absurd (elO_some h).2.2.2.2.2.2 hm⟩
theorem tLeave_at (n : Nat) {b : List UInt8} {at_ e : Nat} {L : List UInt8} (h : At0 b at_ e L) (es : List Int) (he : es ≠ []) (hes : es.length ≤ 1000) (hb : b.length ≤ 1000000) : tLeave n b (at_ : Int) (es ++ [(e : Int)]) = some (if L = [] then (es, none) else (es ++ [(e : Int)], some 3)) := by
 have hpos := List.length_pos_iff.2 he
 have hl : (es ++ [(e : Int)]).length = es.length + 1 := by simp
 have h1 := h.fin
 unfold tLeave
 rw [ite_f (by rw [hl]; simp; omega), tleft_at n h es hes hb, Option.bind_some]
 simp only []
 cases L with
 | nil =>
  simp only [List.length_nil] at h1
  rw [ite_f (decide_eq_false (by omega)), gd_pos (okI64 (by omega) (by omega)), gd_pos (by omega), gd_pos (by omega), if_pos rfl, show ((((es ++ [(e : Int)]).length : Nat) : Int) - 1).toNat = es.length by rw [hl]; omega, List.take_left]
 | cons x t =>
  simp only [List.length_cons] at h1
  rw [ite_t (decide_eq_true (by omega)), if_neg (List.cons_ne_nil _ _)]
theorem tEnd_at (n : Nat) {b : List UInt8} {at_ e : Nat} {L : List UInt8} (h : At0 b at_ e L) (hb : b.length ≤ 1000000) : tEnd n b (at_ : Int) [(e : Int)] = some (if L = [] then none else some 3) := by
 have h1 := h.fin
 unfold tEnd
 rw [ite_f (by simp), show [(e : Int)] = [] ++ [(e : Int)] from rfl, tleft_at n h [] (by simp) hb, Option.bind_some]
 simp only []
 cases L with
 | nil => simp only [List.length_nil] at h1; rw [ite_f (decide_eq_false (by omega)), if_pos rfl]
 | cons x t => simp only [List.length_cons] at h1; rw [ite_t (decide_eq_true (by omega)), if_neg (List.cons_ne_nil _ _)]
end Go.Sx
end
section
namespace Go.Proofs.Ytcdljciflkefaaa
open Go.RowKit Go.Ch Go.Sx
def tabL_twb : List (TypeId × Ti) := [(3, ⟨.int .i64, 1, 8, true, some [.int .i64]⟩),
 (5, ⟨.int .u8, 1, 1, true, some [.int .u8]⟩),
 (9, ⟨.str, 1, 16, true, some [.str]⟩),
 (23, ⟨.sl 5, 1, 24, false, some [.nils]⟩),
 (25, ⟨.ifc, 1, 16, true, some [.ifc]⟩),
 (33, ⟨.ptr 58, 1, 8, true, some [.ptr]⟩),
 (47, ⟨.ptr 68, 1, 8, true, some [.ptr]⟩),
 (56, ⟨.sl 64, 1, 24, false, some [.nils]⟩),
 (58, ⟨.st [(56, 0), (25, 1)], 2, 40, false, some [.nils, .ifc]⟩),
 (64, ⟨.st [(5, 0), (23, 1)], 2, 32, false, some [.int .u8, .nils]⟩),
 (66, ⟨.sl 3, 1, 24, false, some [.nils]⟩),
 (68, ⟨.st [(23, 0), (3, 1), (66, 2)], 3, 56, false, some [.nils, .int .i64, .nils]⟩)]
def tab_twb : Tab := fun t => (tabL_twb).lookup t
theorem tabE_twb : (tabL_twb.map fun p => tiOf Try.prog p.1) = tabL_twb.map fun p => some p.2 := by kernel_rfl
theorem tabO_twb : TabOk Try.prog tab_twb := tab_of tabE_twb
def lagain_j1 (n : Nat) (rc : (List UInt8) → Int → (List Int) → (List (UInt8 × List UInt8)) → (Option Int) → Int → Option (Int × List Int × List (UInt8 × List UInt8) × Option Int × Bool)) (a0_0 : List UInt8) (i2_2 : Int) (k_l1 : Int → (List Int) → (List (UInt8 × List UInt8)) → (Option Int) → Int → Option (Int × List Int × List (UInt8 × List UInt8) × Option Int × Bool)) (ig1000000_1_13 : Int) (zg1000000_2_9 : List Int) (dg1000001_0_13 : List (UInt8 × List UInt8)) (eg1000001_1_13 : Option Int) : Option (Int × List Int × List (UInt8 × List UInt8) × Option Int × Bool) :=
 gd (okI .i64 (i2_2 - 1)) <|
 k_l1 ig1000000_1_13 zg1000000_2_9 dg1000001_0_13 eg1000001_1_13 (i2_2 - 1)
def lagain_l1 (n : Nat) (rc : (List UInt8) → Int → (List Int) → (List (UInt8 × List UInt8)) → (Option Int) → Int → Option (Int × List Int × List (UInt8 × List UInt8) × Option Int × Bool)) (a0_0 : List UInt8) : Nat → Int → List Int → List (UInt8 × List UInt8) → Option Int → Int → Option (Int × List Int × List (UInt8 × List UInt8) × Option Int × Bool)
 | 0, _, _, _, _, _ => none
 | fu_l1 + 1, ig1000000_1_11, zg1000000_2_7, dg1000001_0_11, eg1000001_1_11, i2_2 =>
  bif (decide ((0 : Int) < i2_2)) then
   (tNext n a0_0 ig1000000_1_11 zg1000000_2_7).bind fun r19_3 =>
   bif (!r19_3.2) then
    some (ig1000000_1_11, zg1000000_2_7, dg1000001_0_11, eg1000001_1_11, true)
   else
    (rWhole n r19_3.1).bind fun r25_3 =>
    bif r25_3 then
     (tEnter n a0_0 ig1000000_1_11 zg1000000_2_7 r19_3.1).bind fun r29_3 =>
     bif (!((r29_3.2.2).isNone)) then
      some (r29_3.1, r29_3.2.1, dg1000001_0_11, eg1000001_1_11, false)
     else
      (wOpen n dg1000001_0_11 eg1000001_1_11 r19_3.1).bind fun r34_3 =>
      gd (okI .i64 (i2_2 - 1)) <|
      (rc a0_0 r29_3.1 r29_3.2.1 r34_3.1 r34_3.2 (i2_2 - 1)).bind fun r39_2 =>
      (tLeave n a0_0 r39_2.1 r39_2.2.1).bind fun r41_2 =>
      bif (!r39_2.2.2.2.2) then
       some (r39_2.1, r41_2.1, r39_2.2.2.1, r39_2.2.2.2.1, false)
      else
       bif (!((r41_2.2).isNone)) then
        some (r39_2.1, r41_2.1, r39_2.2.2.1, r39_2.2.2.2.1, false)
       else
        (wClose n r39_2.2.2.1 r39_2.2.2.2.1).bind fun r49_2 =>
        lagain_j1 n rc a0_0 i2_2 (lagain_l1 n rc a0_0 fu_l1) r39_2.1 r41_2.1 r49_2.1 r49_2.2
    else
     (tTake n a0_0 ig1000000_1_11 zg1000000_2_7 r19_3.1).bind fun r53_3 =>
     bif (!((r53_3.2.2).isNone)) then
      some (r53_3.1, zg1000000_2_7, dg1000001_0_11, eg1000001_1_11, false)
     else
      (wPut n dg1000001_0_11 eg1000001_1_11 r19_3.1 r53_3.2.1).bind fun r61_3 =>
      lagain_j1 n rc a0_0 i2_2 (lagain_l1 n rc a0_0 fu_l1) r53_3.1 zg1000000_2_7 r61_3.1 r61_3.2
  else
   some (ig1000000_1_11, zg1000000_2_7, dg1000001_0_11, eg1000001_1_11, false)
def lagain : Nat → (List UInt8) → Int → (List Int) → (List (UInt8 × List UInt8)) → (Option Int) → Int → Option (Int × List Int × List (UInt8 × List UInt8) × Option Int × Bool)
 | 0, _, _, _, _, _, _ => none
 | n + 1, a0_0, a0_1, a0_2, a1_0, a1_1, a2 =>
 lagain_l1 n (lagain n) a0_0 n a0_1 a0_2 a1_0 a1_1 a2
def lBack (n : Nat) (a0 : List UInt8) : Option (Bool) :=
 (tup n).bind fun r10 =>
 bif (decide ((2000 : Int) < ((a0.length : Nat) : Int))) then
  some r10
 else
  (tNewR n a0).bind fun r16 =>
  (wNew n).bind fun r17 =>
  (lagain n r16.1 0 r16.2 (([] : List (UInt8 × List UInt8)) ++ [(0, [])]) none 1200).bind fun r26 =>
  bif (!r26.2.2.2.2) then
   some r10
  else
   (wBytes n r26.2.2.1 r26.2.2.2.1).bind fun r32 =>
   (tEnd n r16.1 r26.1 r26.2.1).bind fun r36 =>
   bif r10 then
    bif ((r32.2.2.2).isNone) then
     bif ((r36).isNone) then
      some (r32.2.2.1 == a0)
     else
      some false
    else
     some false
   else
    some false
def lagain_j1_E (a0_0 : List UInt8) (i2_2 : Int) (ig1000000_1_13 : Int) (zg1000000_2_9 : List Int) (dg1000001_0_13 : List (UInt8 × List UInt8)) (eg1000001_1_13 : Option Int) : S := ⟨[(0, kP 0 0), (1, kP 1 0), (2, kI i2_2)], [(1000000, kP 0 0), (1000001, kP 1 0)], [⟨.blk, 68, 1, 3, .c [.wh 2, .s (.k .i64 ig1000000_1_13), .wh 3]⟩, ⟨.blk, 58, 1, 2, .c [.wh 4, .s (.er 29 .i64 eg1000001_1_13)]⟩, nb 5 a0_0, nz 3 zg1000000_2_9, ⟨.row, 64, 2, dg1000001_0_13.length, .g 5 dg1000001_0_13.length 2 []⟩, ⟨.og, 64, 2, dg1000001_0_13.length, .d (.pr .u8 (.by 5)) dg1000001_0_13⟩]⟩
abbrev lagain_j1_P (n : Nat) (a0_0 : List UInt8) (i2_2 : Int) (k_l1 : Int → (List Int) → (List (UInt8 × List UInt8)) → (Option Int) → Int → Option (Int × List Int × List (UInt8 × List UInt8) × Option Int × Bool)) (r : Int × List Int × List (UInt8 × List UInt8) × Option Int × Bool) : S → Prop := fun s => ∃ (ig1000000_1_13 : Int), ∃ (zg1000000_2_9 : List Int), ∃ (dg1000001_0_13 : List (UInt8 × List UInt8)), ∃ (eg1000001_1_13 : Option Int), s = lagain_j1_E a0_0 i2_2 ig1000000_1_13 zg1000000_2_9 dg1000001_0_13 eg1000001_1_13 ∧ lagain_j1 n (lagain n) a0_0 i2_2 k_l1 ig1000000_1_13 zg1000000_2_9 dg1000001_0_13 eg1000001_1_13 = some r
def lagain_l1_E (a0_0 : List UInt8) (ig1000000_1_11 : Int) (zg1000000_2_7 : List Int) (dg1000001_0_11 : List (UInt8 × List UInt8)) (eg1000001_1_11 : Option Int) (i2_2 : Int) : S := ⟨[(0, kP 0 0), (1, kP 1 0), (2, kI i2_2)], [(1000000, kP 0 0), (1000001, kP 1 0)], [⟨.blk, 68, 1, 3, .c [.wh 2, .s (.k .i64 ig1000000_1_11), .wh 3]⟩, ⟨.blk, 58, 1, 2, .c [.wh 4, .s (.er 29 .i64 eg1000001_1_11)]⟩, nb 5 a0_0, nz 3 zg1000000_2_7, ⟨.row, 64, 2, dg1000001_0_11.length, .g 5 dg1000001_0_11.length 2 []⟩, ⟨.og, 64, 2, dg1000001_0_11.length, .d (.pr .u8 (.by 5)) dg1000001_0_11⟩]⟩
abbrev lagain_l1_P (n : Nat) (a0_0 : List UInt8) (r : Int × List Int × List (UInt8 × List UInt8) × Option Int × Bool) (fu : Nat) : S → Prop := fun s => ∃ (ig1000000_1_11 : Int), ∃ (zg1000000_2_7 : List Int), ∃ (dg1000001_0_11 : List (UInt8 × List UInt8)), ∃ (eg1000001_1_11 : Option Int), ∃ (i2_2 : Int), s = lagain_l1_E a0_0 ig1000000_1_11 zg1000000_2_7 dg1000001_0_11 eg1000001_1_11 i2_2 ∧ lagain_l1 n (lagain n) a0_0 fu ig1000000_1_11 zg1000000_2_7 dg1000001_0_11 eg1000001_1_11 i2_2 = some r
def lagain_R (a0_0 : List UInt8) (r : Int × List Int × List (UInt8 × List UInt8) × Option Int × Bool) : S := ⟨[(6, kB r.2.2.2.2)], [(1000000, kP 0 0), (1000001, kP 1 0)], [⟨.blk, 68, 1, 3, .c [.wh 2, .s (.k .i64 r.1), .wh 3]⟩, ⟨.blk, 58, 1, 2, .c [.wh 4, .s (.er 29 .i64 r.2.2.2.1)]⟩, nb 5 a0_0, nz 3 r.2.1, ⟨.row, 64, 2, r.2.2.1.length, .g 5 r.2.2.1.length 2 []⟩, ⟨.og, 64, 2, r.2.2.1.length, .d (.pr .u8 (.by 5)) r.2.2.1⟩]⟩
def lagain_ct (n : Nat) (r : Int × List Int × List (UInt8 × List UInt8) × Option Int × Bool) : CtM := ctM (cmm (mP 68 (mC (mB 5) (mC mI (mC (mZ 3) mN)))) fun y0 => cmm (mP 58 (mC (mG 64 (.pr .u8 (.by 5))) (mC (mEr 29) mN))) fun y1 => cmc rI.rd fun l2 => cmR (y1.1.1 = y1.1.2.length ∧ lagain n y0.1 y0.2.1 y0.2.2.1 y1.1.2 y1.2.1 l2 = some r) (kB r.2.2.2.2) [⟨.blk, 68, 1, 3, .c [.wh 0, .s (.k .i64 r.1), .wh 1]⟩, ⟨.blk, 58, 1, 2, .c [.wh 2, .s (.er 29 .i64 r.2.2.2.1)]⟩] [nb 5 y0.1, nz 3 r.2.1, ⟨.row, 64, 2, r.2.2.1.length, .g 3 r.2.2.1.length 2 []⟩, ⟨.og, 64, 2, r.2.2.1.length, .d (.pr .u8 (.by 5)) r.2.2.1⟩])
theorem lagain_ok (n : Nat) : ∀ r : Int × List Int × List (UInt8 × List UInt8) × Option Int × Bool, FnMOk Try.prog 26 (lagain_ct n r) := by
 induction n with
 | zero =>
  intro r
  refine fnokM Try.func26 ?_
  refine HM_m (mP 68 (mC (mB 5) (mC mI (mC (mZ 3) mN)))) (fun (p0 : ((List UInt8) × (Int) × (List Int) × Unit)) => ?_) (allOwn_ok rfl)
  obtain ⟨l0_0, l0_1, l0_2, _⟩ := p0
  refine HM_m (mP 58 (mC (mG 64 (.pr .u8 (.by 5))) (mC (mEr 29) mN))) (fun (p1 : ((Nat × List (UInt8 × List UInt8)) × (Option Int) × Unit)) => ?_) (allOwn_ok rfl)
  obtain ⟨⟨k1_0, l1_0⟩, l1_1, _⟩ := p1
  refine HM_c rI fun l2 _ => HM_0 tabO_twb (lagain_R l0_0 r) [.tmp 6] [0, 1, 2, 3, 4, 5] 64 2 Try.func26 fun w bs h => ?_
  obtain ⟨ek1_0, h⟩ := h
  replace ek1_0 : k1_0 = l1_0.length := ek1_0
  subst ek1_0
  cases h
 | succ n ih =>
  intro r
  refine fnokM Try.func26 ?_
  refine HM_m (mP 68 (mC (mB 5) (mC mI (mC (mZ 3) mN)))) (fun (p0 : ((List UInt8) × (Int) × (List Int) × Unit)) => ?_) (allOwn_ok rfl)
  obtain ⟨l0_0, l0_1, l0_2, _⟩ := p0
  refine HM_m (mP 58 (mC (mG 64 (.pr .u8 (.by 5))) (mC (mEr 29) mN))) (fun (p1 : ((Nat × List (UInt8 × List UInt8)) × (Option Int) × Unit)) => ?_) (allOwn_ok rfl)
  obtain ⟨⟨k1_0, l1_0⟩, l1_1, _⟩ := p1
  refine HM_c rI fun l2 _ => HM_0 tabO_twb (lagain_R l0_0 r) [.tmp 6] [0, 1, 2, 3, 4, 5] 64 2 Try.func26 fun w bs h => ?_
  obtain ⟨ek1_0, h⟩ := h
  replace ek1_0 : k1_0 = l1_0.length := ek1_0
  subst ek1_0
  have h : lagain (n + 1) l0_0 l0_1 l0_2 l1_0 l1_1 l2 = some r := h
  unfold lagain at h
  have hT := tabO_twb
  refine Vrs hT [0, 3, 1, 2, 4, 5] ⟨[(0, kP 0 0), (1, kP 1 0), (2, kI l2)], [(1000000, kP 0 0), (1000001, kP 1 0)], [⟨.blk, 68, 1, 3, .c [.wh 2, .s (.k .i64 l0_1), .wh 3]⟩, ⟨.blk, 58, 1, 2, .c [.wh 4, .s (.er 29 .i64 l1_1)]⟩, nb 5 l0_0, nz 3 l0_2, ⟨.row, 64, 2, l1_0.length, .g 5 l1_0.length 2 []⟩, ⟨.og, 64, 2, l1_0.length, .d (.pr .u8 (.by 5)) l1_0⟩]⟩ ?_
  refine W_seq ?_
  refine W_block ?_
  refine Vc [] [0, 1, 2, 3, 4, 5] (lagain_l1_E l0_0 l0_1 l0_2 l1_0 l1_1 l2) (W_lp ((lagain_l1_P n l0_0 r)) n ⟨_, _, _, _, _, rfl, h⟩ ?_)
  rintro fu_l1 _ ⟨ig1000000_1_11, zg1000000_2_7, dg1000001_0_11, eg1000001_1_11, i2_2, rfl, h⟩
  cases fu_l1 with
  | zero => cases h
  | succ fu_l1 =>
   refine ⟨fu_l1, rfl, ?_⟩
   rw [lagain_l1] at h
   refine W_seq ?_
   refine Vrs hT [0, 1, 2, 3, 4, 5] ⟨[(0, kP 0 0), (1, kP 1 0), (2, kI i2_2), (16, kB (decide ((0 : Int) < i2_2)))], [(1000000, kP 0 0), (1000001, kP 1 0)], [⟨.blk, 68, 1, 3, .c [.wh 2, .s (.k .i64 ig1000000_1_11), .wh 3]⟩, ⟨.blk, 58, 1, 2, .c [.wh 4, .s (.er 29 .i64 eg1000001_1_11)]⟩, nb 5 l0_0, nz 3 zg1000000_2_7, ⟨.row, 64, 2, dg1000001_0_11.length, .g 5 dg1000001_0_11.length 2 []⟩, ⟨.og, 64, 2, dg1000001_0_11.length, .d (.pr .u8 (.by 5)) dg1000001_0_11⟩]⟩ ?_
   refine Vi ((decide ((0 : Int) < i2_2))) (fun g18 => ?_) (fun g18 => ?_)
   ·replace h := bif_t h g18
    refine W_skip ?_
    refine W_block ?_
    obtain ⟨r19_3, g1, h⟩ := bind_some' h
    refine Vgs hT (fM 1 (tNext_ok n r19_3) fN) [] [] [0, 1, 6, 7, 4, 5] ⟨[(0, kP 0 0), (1, kP 1 0), (2, kI i2_2), (7, kU r19_3.1), (8, kB r19_3.2)], [(1000000, kP 0 0), (1000001, kP 1 0)], [⟨.blk, 68, 1, 3, .c [.wh 2, .s (.k .i64 ig1000000_1_11), .wh 3]⟩, ⟨.blk, 58, 1, 2, .c [.wh 4, .s (.er 29 .i64 eg1000001_1_11)]⟩, nb 5 l0_0, nz 3 zg1000000_2_7, ⟨.row, 64, 2, dg1000001_0_11.length, .g 5 dg1000001_0_11.length 2 []⟩, ⟨.og, 64, 2, dg1000001_0_11.length, .d (.pr .u8 (.by 5)) dg1000001_0_11⟩]⟩ (aP g1 aN) ?_
    refine W_seq ?_
    refine Vrs hT [0, 1, 2, 3, 4, 5] ⟨[(0, kP 0 0), (1, kP 1 0), (2, kI i2_2), (7, kU r19_3.1), (23, kB (!r19_3.2))], [(1000000, kP 0 0), (1000001, kP 1 0)], [⟨.blk, 68, 1, 3, .c [.wh 2, .s (.k .i64 ig1000000_1_11), .wh 3]⟩, ⟨.blk, 58, 1, 2, .c [.wh 4, .s (.er 29 .i64 eg1000001_1_11)]⟩, nb 5 l0_0, nz 3 zg1000000_2_7, ⟨.row, 64, 2, dg1000001_0_11.length, .g 5 dg1000001_0_11.length 2 []⟩, ⟨.og, 64, 2, dg1000001_0_11.length, .d (.pr .u8 (.by 5)) dg1000001_0_11⟩]⟩ ?_
    refine Vi ((!r19_3.2)) (fun g17 => ?_) (fun g17 => ?_)
    ·replace h := bif_t h g17
     refine Vrs hT [0, 1, 2, 3, 4, 5] ⟨[(6, kB true)], [(1000000, kP 0 0), (1000001, kP 1 0)], [⟨.blk, 68, 1, 3, .c [.wh 2, .s (.k .i64 ig1000000_1_11), .wh 3]⟩, ⟨.blk, 58, 1, 2, .c [.wh 4, .s (.er 29 .i64 eg1000001_1_11)]⟩, nb 5 l0_0, nz 3 zg1000000_2_7, ⟨.row, 64, 2, dg1000001_0_11.length, .g 5 dg1000001_0_11.length 2 []⟩, ⟨.og, 64, 2, dg1000001_0_11.length, .d (.pr .u8 (.by 5)) dg1000001_0_11⟩]⟩ ?_
     refine Vc [] [0, 1, 2, 3, 4, 5] (lagain_R l0_0 (ig1000000_1_11, zg1000000_2_7, dg1000001_0_11, eg1000001_1_11, true)) (W_ret ?_)
     exact ⟨.inl rfl, by cases h; rfl⟩
    ·replace h := bif_f h g17
     refine W_skip ?_
     obtain ⟨r25_3, g2, h⟩ := bind_some' h
     refine Vgs hT (fT 1 (rWhole_ok n r25_3) fN) [] [] [0, 1, 2, 3, 4, 5] ⟨[(0, kP 0 0), (1, kP 1 0), (2, kI i2_2), (7, kU r19_3.1), (9, kB r25_3)], [(1000000, kP 0 0), (1000001, kP 1 0)], [⟨.blk, 68, 1, 3, .c [.wh 2, .s (.k .i64 ig1000000_1_11), .wh 3]⟩, ⟨.blk, 58, 1, 2, .c [.wh 4, .s (.er 29 .i64 eg1000001_1_11)]⟩, nb 5 l0_0, nz 3 zg1000000_2_7, ⟨.row, 64, 2, dg1000001_0_11.length, .g 5 dg1000001_0_11.length 2 []⟩, ⟨.og, 64, 2, dg1000001_0_11.length, .d (.pr .u8 (.by 5)) dg1000001_0_11⟩]⟩ (aP g2 aN) ?_
     refine W_join (lagain_j1_P n l0_0 i2_2 (lagain_l1 n (lagain n) l0_0 fu_l1) r) ?_ ?_
     ·rintro _ ⟨ig1000000_1_13, zg1000000_2_9, dg1000001_0_13, eg1000001_1_13, rfl, h⟩
      unfold lagain_j1 at h
      obtain ⟨g3, h⟩ := gd_some h
      refine Vg hT fN [] [] [0, 1, 2, 3, 4, 5] (lagain_l1_E l0_0 ig1000000_1_13 zg1000000_2_9 dg1000001_0_13 eg1000001_1_13 (i2_2 - 1)) (aP g3 aN) ?_
      exact ⟨_, _, _, _, _, rfl, h⟩
     ·refine W_seq ?_
      refine Vr hT [0, 1, 2, 3, 4, 5] ⟨[(0, kP 0 0), (1, kP 1 0), (2, kI i2_2), (7, kU r19_3.1), (26, kB r25_3)], [(1000000, kP 0 0), (1000001, kP 1 0)], [⟨.blk, 68, 1, 3, .c [.wh 2, .s (.k .i64 ig1000000_1_11), .wh 3]⟩, ⟨.blk, 58, 1, 2, .c [.wh 4, .s (.er 29 .i64 eg1000001_1_11)]⟩, nb 5 l0_0, nz 3 zg1000000_2_7, ⟨.row, 64, 2, dg1000001_0_11.length, .g 5 dg1000001_0_11.length 2 []⟩, ⟨.og, 64, 2, dg1000001_0_11.length, .d (.pr .u8 (.by 5)) dg1000001_0_11⟩]⟩ ?_
      refine Vi (r25_3) (fun g16 => ?_) (fun g16 => ?_)
      ·replace h := bif_t h g16
       obtain ⟨r29_3, g4, h⟩ := bind_some' h
       refine Vgs hT (fM 2 (tEnter_ok n r29_3) fN) [] [] [0, 1, 6, 7, 4, 5] ⟨[(0, kP 0 0), (1, kP 1 0), (2, kI i2_2), (7, kU r19_3.1), (10, kE 29 r29_3.2.2)], [(1000000, kP 0 0), (1000001, kP 1 0)], [⟨.blk, 68, 1, 3, .c [.wh 2, .s (.k .i64 r29_3.1), .wh 3]⟩, ⟨.blk, 58, 1, 2, .c [.wh 4, .s (.er 29 .i64 eg1000001_1_11)]⟩, nb 5 l0_0, nz 3 r29_3.2.1, ⟨.row, 64, 2, dg1000001_0_11.length, .g 5 dg1000001_0_11.length 2 []⟩, ⟨.og, 64, 2, dg1000001_0_11.length, .d (.pr .u8 (.by 5)) dg1000001_0_11⟩]⟩ (aP g4 aN) ?_
       refine W_seq ?_
       refine Vrs hT [0, 1, 2, 3, 4, 5] ⟨[(0, kP 0 0), (1, kP 1 0), (2, kI i2_2), (7, kU r19_3.1), (31, kB (!((r29_3.2.2).isNone)))], [(1000000, kP 0 0), (1000001, kP 1 0)], [⟨.blk, 68, 1, 3, .c [.wh 2, .s (.k .i64 r29_3.1), .wh 3]⟩, ⟨.blk, 58, 1, 2, .c [.wh 4, .s (.er 29 .i64 eg1000001_1_11)]⟩, nb 5 l0_0, nz 3 r29_3.2.1, ⟨.row, 64, 2, dg1000001_0_11.length, .g 5 dg1000001_0_11.length 2 []⟩, ⟨.og, 64, 2, dg1000001_0_11.length, .d (.pr .u8 (.by 5)) dg1000001_0_11⟩]⟩ ?_
       refine Vi ((!((r29_3.2.2).isNone))) (fun g12 => ?_) (fun g12 => ?_)
       ·replace h := bif_t h g12
        refine Vrs hT [0, 1, 2, 3, 4, 5] ⟨[(6, kB false)], [(1000000, kP 0 0), (1000001, kP 1 0)], [⟨.blk, 68, 1, 3, .c [.wh 2, .s (.k .i64 r29_3.1), .wh 3]⟩, ⟨.blk, 58, 1, 2, .c [.wh 4, .s (.er 29 .i64 eg1000001_1_11)]⟩, nb 5 l0_0, nz 3 r29_3.2.1, ⟨.row, 64, 2, dg1000001_0_11.length, .g 5 dg1000001_0_11.length 2 []⟩, ⟨.og, 64, 2, dg1000001_0_11.length, .d (.pr .u8 (.by 5)) dg1000001_0_11⟩]⟩ ?_
        refine Vc [] [0, 1, 2, 3, 4, 5] (lagain_R l0_0 (r29_3.1, r29_3.2.1, dg1000001_0_11, eg1000001_1_11, false)) (W_ret ?_)
        exact ⟨.inl rfl, by cases h; rfl⟩
       ·replace h := bif_f h g12
        refine Vc [] [0, 1, 2, 3, 4, 5] ⟨[(0, kP 0 0), (1, kP 1 0), (2, kI i2_2), (7, kU r19_3.1)], [(1000000, kP 0 0), (1000001, kP 1 0)], [⟨.blk, 68, 1, 3, .c [.wh 2, .s (.k .i64 r29_3.1), .wh 3]⟩, ⟨.blk, 58, 1, 2, .c [.wh 4, .s (.er 29 .i64 eg1000001_1_11)]⟩, nb 5 l0_0, nz 3 r29_3.2.1, ⟨.row, 64, 2, dg1000001_0_11.length, .g 5 dg1000001_0_11.length 2 []⟩, ⟨.og, 64, 2, dg1000001_0_11.length, .d (.pr .u8 (.by 5)) dg1000001_0_11⟩]⟩ (W_skip ?_)
        refine W_seq ?_
        obtain ⟨r34_3, g5, h⟩ := bind_some' h
        replace g5 := mgA dg1000001_0_11.length g5
        refine Vg hT (fM 2 (wOpen_ok n r34_3) fN) [] [] [0, 1, 2, 3, 6, 7] ⟨[(0, kP 0 0), (1, kP 1 0), (2, kI i2_2)], [(1000000, kP 0 0), (1000001, kP 1 0)], [⟨.blk, 68, 1, 3, .c [.wh 2, .s (.k .i64 r29_3.1), .wh 3]⟩, ⟨.blk, 58, 1, 2, .c [.wh 4, .s (.er 29 .i64 r34_3.2)]⟩, nb 5 l0_0, nz 3 r29_3.2.1, ⟨.row, 64, 2, r34_3.1.length, .g 5 r34_3.1.length 2 []⟩, ⟨.og, 64, 2, r34_3.1.length, .d (.pr .u8 (.by 5)) r34_3.1⟩]⟩ (aP g5 aN) ?_
        refine W_seq ?_
        obtain ⟨g6, h⟩ := gd_some h
        obtain ⟨r39_2, g7, h⟩ := bind_some' h
        replace g7 := mgA r34_3.1.length g7
        refine Vg hT (fM 4 (ih r39_2) fN) [] [] [0, 1, 6, 7, 8, 9] ⟨[(0, kP 0 0), (1, kP 1 0), (2, kI i2_2), (11, kB r39_2.2.2.2.2)], [(1000000, kP 0 0), (1000001, kP 1 0)], [⟨.blk, 68, 1, 3, .c [.wh 2, .s (.k .i64 r39_2.1), .wh 3]⟩, ⟨.blk, 58, 1, 2, .c [.wh 4, .s (.er 29 .i64 r39_2.2.2.2.1)]⟩, nb 5 l0_0, nz 3 r39_2.2.1, ⟨.row, 64, 2, r39_2.2.2.1.length, .g 5 r39_2.2.2.1.length 2 []⟩, ⟨.og, 64, 2, r39_2.2.2.1.length, .d (.pr .u8 (.by 5)) r39_2.2.2.1⟩]⟩ (aP g6 (aP g7 aN)) ?_
        obtain ⟨r41_2, g8, h⟩ := bind_some' h
        refine Vgs hT (fM 1 (tLeave_ok n r41_2) fN) [] [] [0, 1, 6, 7, 4, 5] ⟨[(0, kP 0 0), (1, kP 1 0), (2, kI i2_2), (11, kB r39_2.2.2.2.2), (12, kE 29 r41_2.2)], [(1000000, kP 0 0), (1000001, kP 1 0)], [⟨.blk, 68, 1, 3, .c [.wh 2, .s (.k .i64 r39_2.1), .wh 3]⟩, ⟨.blk, 58, 1, 2, .c [.wh 4, .s (.er 29 .i64 r39_2.2.2.2.1)]⟩, nb 5 l0_0, nz 3 r41_2.1, ⟨.row, 64, 2, r39_2.2.2.1.length, .g 5 r39_2.2.2.1.length 2 []⟩, ⟨.og, 64, 2, r39_2.2.2.1.length, .d (.pr .u8 (.by 5)) r39_2.2.2.1⟩]⟩ (aP g8 aN) ?_
        refine W_seq ?_
        refine W_seq ?_
        rcases Bool.eq_false_or_eq_true (!r39_2.2.2.2.2) with g9 | g9
        ·replace h := bif_t h g9
         refine Vg hT fN [(2, true)] [] [0, 1, 2, 3, 4, 5] ⟨[(0, kP 0 0), (1, kP 1 0), (2, kI i2_2), (47, kB true)], [(1000000, kP 0 0), (1000001, kP 1 0)], [⟨.blk, 68, 1, 3, .c [.wh 2, .s (.k .i64 r39_2.1), .wh 3]⟩, ⟨.blk, 58, 1, 2, .c [.wh 4, .s (.er 29 .i64 r39_2.2.2.2.1)]⟩, nb 5 l0_0, nz 3 r41_2.1, ⟨.row, 64, 2, r39_2.2.2.1.length, .g 5 r39_2.2.2.1.length 2 []⟩, ⟨.og, 64, 2, r39_2.2.2.1.length, .d (.pr .u8 (.by 5)) r39_2.2.2.1⟩]⟩ (aP g9 aN) ?_
         refine Vi (true) (fun _ => ?_) (fun hb => by cases hb)
         refine Vrs hT [0, 1, 2, 3, 4, 5] ⟨[(6, kB false)], [(1000000, kP 0 0), (1000001, kP 1 0)], [⟨.blk, 68, 1, 3, .c [.wh 2, .s (.k .i64 r39_2.1), .wh 3]⟩, ⟨.blk, 58, 1, 2, .c [.wh 4, .s (.er 29 .i64 r39_2.2.2.2.1)]⟩, nb 5 l0_0, nz 3 r41_2.1, ⟨.row, 64, 2, r39_2.2.2.1.length, .g 5 r39_2.2.2.1.length 2 []⟩, ⟨.og, 64, 2, r39_2.2.2.1.length, .d (.pr .u8 (.by 5)) r39_2.2.2.1⟩]⟩ ?_
         refine Vc [] [0, 1, 2, 3, 4, 5] (lagain_R l0_0 (r39_2.1, r41_2.1, r39_2.2.2.1, r39_2.2.2.2.1, false)) (W_ret ?_)
         exact ⟨.inl rfl, by cases h; rfl⟩
        ·replace h := bif_f h g9
         refine Vg hT fN [(2, false)] [] [0, 1, 2, 3, 4, 5] ⟨[(0, kP 0 0), (1, kP 1 0), (2, kI i2_2), (47, kB (!((r41_2.2).isNone)))], [(1000000, kP 0 0), (1000001, kP 1 0)], [⟨.blk, 68, 1, 3, .c [.wh 2, .s (.k .i64 r39_2.1), .wh 3]⟩, ⟨.blk, 58, 1, 2, .c [.wh 4, .s (.er 29 .i64 r39_2.2.2.2.1)]⟩, nb 5 l0_0, nz 3 r41_2.1, ⟨.row, 64, 2, r39_2.2.2.1.length, .g 5 r39_2.2.2.1.length 2 []⟩, ⟨.og, 64, 2, r39_2.2.2.1.length, .d (.pr .u8 (.by 5)) r39_2.2.2.1⟩]⟩ (aP g9 aN) ?_
         refine Vi ((!((r41_2.2).isNone))) (fun g11 => ?_) (fun g11 => ?_)
         ·replace h := bif_t h g11
          refine Vrs hT [0, 1, 2, 3, 4, 5] ⟨[(6, kB false)], [(1000000, kP 0 0), (1000001, kP 1 0)], [⟨.blk, 68, 1, 3, .c [.wh 2, .s (.k .i64 r39_2.1), .wh 3]⟩, ⟨.blk, 58, 1, 2, .c [.wh 4, .s (.er 29 .i64 r39_2.2.2.2.1)]⟩, nb 5 l0_0, nz 3 r41_2.1, ⟨.row, 64, 2, r39_2.2.2.1.length, .g 5 r39_2.2.2.1.length 2 []⟩, ⟨.og, 64, 2, r39_2.2.2.1.length, .d (.pr .u8 (.by 5)) r39_2.2.2.1⟩]⟩ ?_
          refine Vc [] [0, 1, 2, 3, 4, 5] (lagain_R l0_0 (r39_2.1, r41_2.1, r39_2.2.2.1, r39_2.2.2.2.1, false)) (W_ret ?_)
          exact ⟨.inl rfl, by cases h; rfl⟩
         ·replace h := bif_f h g11
          refine Vc [] [0, 1, 2, 3, 4, 5] ⟨[(0, kP 0 0), (1, kP 1 0), (2, kI i2_2)], [(1000000, kP 0 0), (1000001, kP 1 0)], [⟨.blk, 68, 1, 3, .c [.wh 2, .s (.k .i64 r39_2.1), .wh 3]⟩, ⟨.blk, 58, 1, 2, .c [.wh 4, .s (.er 29 .i64 r39_2.2.2.2.1)]⟩, nb 5 l0_0, nz 3 r41_2.1, ⟨.row, 64, 2, r39_2.2.2.1.length, .g 5 r39_2.2.2.1.length 2 []⟩, ⟨.og, 64, 2, r39_2.2.2.1.length, .d (.pr .u8 (.by 5)) r39_2.2.2.1⟩]⟩ (W_skip ?_)
          obtain ⟨r49_2, g10, h⟩ := bind_some' h
          replace g10 := mgA r39_2.2.2.1.length g10
          refine Vg hT (fM 1 (wClose_ok n r49_2) fN) [] [] [0, 1, 2, 3, 6, 7] (lagain_j1_E l0_0 i2_2 r39_2.1 r41_2.1 r49_2.1 r49_2.2) (aP g10 aN) ?_
          exact ⟨_, _, _, _, rfl, h⟩
      ·replace h := bif_f h g16
       obtain ⟨r53_3, g13, h⟩ := bind_some' h
       refine Vgs hT (fM 2 (tTake_ok n r53_3) fN) [] [] [0, 1, 6, 7, 4, 5, 8] ⟨[(0, kP 0 0), (1, kP 1 0), (2, kI i2_2), (7, kU r19_3.1), (13, kH 6), (14, kE 29 r53_3.2.2)], [(1000000, kP 0 0), (1000001, kP 1 0)], [⟨.blk, 68, 1, 3, .c [.wh 2, .s (.k .i64 r53_3.1), .wh 3]⟩, ⟨.blk, 58, 1, 2, .c [.wh 4, .s (.er 29 .i64 eg1000001_1_11)]⟩, nb 5 l0_0, nz 3 zg1000000_2_7, ⟨.row, 64, 2, dg1000001_0_11.length, .g 5 dg1000001_0_11.length 2 []⟩, ⟨.og, 64, 2, dg1000001_0_11.length, .d (.pr .u8 (.by 5)) dg1000001_0_11⟩, nb 5 r53_3.2.1]⟩ (aP g13 aN) ?_
       refine W_seq ?_
       refine Vrs hT [0, 1, 2, 3, 4, 5, 6] ⟨[(0, kP 0 0), (1, kP 1 0), (2, kI i2_2), (7, kU r19_3.1), (13, kH 6), (57, kB (!((r53_3.2.2).isNone)))], [(1000000, kP 0 0), (1000001, kP 1 0)], [⟨.blk, 68, 1, 3, .c [.wh 2, .s (.k .i64 r53_3.1), .wh 3]⟩, ⟨.blk, 58, 1, 2, .c [.wh 4, .s (.er 29 .i64 eg1000001_1_11)]⟩, nb 5 l0_0, nz 3 zg1000000_2_7, ⟨.row, 64, 2, dg1000001_0_11.length, .g 5 dg1000001_0_11.length 2 []⟩, ⟨.og, 64, 2, dg1000001_0_11.length, .d (.pr .u8 (.by 5)) dg1000001_0_11⟩, nb 5 r53_3.2.1]⟩ ?_
       refine Vi ((!((r53_3.2.2).isNone))) (fun g15 => ?_) (fun g15 => ?_)
       ·replace h := bif_t h g15
        refine Vrs hT [0, 1, 2, 3, 4, 5] ⟨[(6, kB false)], [(1000000, kP 0 0), (1000001, kP 1 0)], [⟨.blk, 68, 1, 3, .c [.wh 2, .s (.k .i64 r53_3.1), .wh 3]⟩, ⟨.blk, 58, 1, 2, .c [.wh 4, .s (.er 29 .i64 eg1000001_1_11)]⟩, nb 5 l0_0, nz 3 zg1000000_2_7, ⟨.row, 64, 2, dg1000001_0_11.length, .g 5 dg1000001_0_11.length 2 []⟩, ⟨.og, 64, 2, dg1000001_0_11.length, .d (.pr .u8 (.by 5)) dg1000001_0_11⟩]⟩ ?_
        refine Vc [] [0, 1, 2, 3, 4, 5] (lagain_R l0_0 (r53_3.1, zg1000000_2_7, dg1000001_0_11, eg1000001_1_11, false)) (W_ret ?_)
        exact ⟨.inl rfl, by cases h; rfl⟩
       ·replace h := bif_f h g15
        refine Vc [] [0, 1, 2, 3, 4, 5, 6] ⟨[(0, kP 0 0), (1, kP 1 0), (2, kI i2_2), (7, kU r19_3.1), (13, kH 6)], [(1000000, kP 0 0), (1000001, kP 1 0)], [⟨.blk, 68, 1, 3, .c [.wh 2, .s (.k .i64 r53_3.1), .wh 3]⟩, ⟨.blk, 58, 1, 2, .c [.wh 4, .s (.er 29 .i64 eg1000001_1_11)]⟩, nb 5 l0_0, nz 3 zg1000000_2_7, ⟨.row, 64, 2, dg1000001_0_11.length, .g 5 dg1000001_0_11.length 2 []⟩, ⟨.og, 64, 2, dg1000001_0_11.length, .d (.pr .u8 (.by 5)) dg1000001_0_11⟩, nb 5 r53_3.2.1]⟩ (W_skip ?_)
        obtain ⟨r61_3, g14, h⟩ := bind_some' h
        replace g14 := mgA dg1000001_0_11.length g14
        refine Vg hT (fM 3 (wPut_ok n r61_3) fN) [] [] [0, 1, 2, 3, 7, 8] (lagain_j1_E l0_0 i2_2 r53_3.1 zg1000000_2_7 r61_3.1 r61_3.2) (aP g14 aN) ?_
        exact ⟨_, _, _, _, rfl, h⟩
   ·replace h := bif_f h g18
    refine Vc [] [0, 1, 2, 3, 4, 5] ⟨[], [(1000000, kP 0 0), (1000001, kP 1 0)], [⟨.blk, 68, 1, 3, .c [.wh 2, .s (.k .i64 ig1000000_1_11), .wh 3]⟩, ⟨.blk, 58, 1, 2, .c [.wh 4, .s (.er 29 .i64 eg1000001_1_11)]⟩, nb 5 l0_0, nz 3 zg1000000_2_7, ⟨.row, 64, 2, dg1000001_0_11.length, .g 5 dg1000001_0_11.length 2 []⟩, ⟨.og, 64, 2, dg1000001_0_11.length, .d (.pr .u8 (.by 5)) dg1000001_0_11⟩]⟩ (W_exit ?_)
    refine Vrs hT [0, 1, 2, 3, 4, 5] ⟨[(6, kB false)], [(1000000, kP 0 0), (1000001, kP 1 0)], [⟨.blk, 68, 1, 3, .c [.wh 2, .s (.k .i64 ig1000000_1_11), .wh 3]⟩, ⟨.blk, 58, 1, 2, .c [.wh 4, .s (.er 29 .i64 eg1000001_1_11)]⟩, nb 5 l0_0, nz 3 zg1000000_2_7, ⟨.row, 64, 2, dg1000001_0_11.length, .g 5 dg1000001_0_11.length 2 []⟩, ⟨.og, 64, 2, dg1000001_0_11.length, .d (.pr .u8 (.by 5)) dg1000001_0_11⟩]⟩ ?_
    refine Vc [] [0, 1, 2, 3, 4, 5] (lagain_R l0_0 (ig1000000_1_11, zg1000000_2_7, dg1000001_0_11, eg1000001_1_11, false)) (W_ret ?_)
    exact ⟨.inl rfl, by cases h; rfl⟩
def lBack_R (r : Bool) : S := ⟨[(2, kB r)], [], []⟩
def lBack_ct (n : Nat) (r : Bool) : Ct := ctc (rB 5).rd fun _ l0 => ct0 fun H => ([lBack n l0 = some r], shA H.length (kB r), shH H.length [])
theorem lBack_ok (n : Nat) (r : Bool) : FnOk Try.prog Tr 6 (lBack_ct n r) := by
 refine fnok Try.func6 ?_
 refine HO_c (rB 5) fun l0 _ => HO_0 tabO_twb (lBack_R r) [.tmp 2] [] 53 Try.func6 fun w hG h => ?_
 unfold lBack at h
 have hT := tabO_twb
 refine Vrs hT [0] ⟨[(0, kH 0)], [], [ob 5 l0]⟩ ?_
 obtain ⟨r10, g1, h⟩ := bind_some' h
 refine Vgs hT (fT 0 (tup_ok n r10) fN) [] [] [0] ⟨[(0, kH 0), (3, kB r10)], [], [ob 5 l0]⟩ (aP g1 aN) ?_
 refine W_seq ?_
 refine Vrs hT [0] ⟨[(0, kH 0), (3, kB r10), (13, kB (decide ((2000 : Int) < ((l0.length : Nat) : Int))))], [], [ob 5 l0]⟩ ?_
 refine Vi ((decide ((2000 : Int) < ((l0.length : Nat) : Int)))) (fun g11 => ?_) (fun g11 => ?_)
 ·replace h := bif_t h g11
  refine Vrs hT [] ⟨[(2, kB r10)], [], []⟩ ?_
  refine Vc [] [] (lBack_R r10) (W_ret ?_)
  exact ⟨.inl rfl, by cases h; rfl⟩
 ·replace h := bif_f h g11
  refine W_skip ?_
  obtain ⟨r16, g2, h⟩ := bind_some' h
  refine Vgs hT (fT 1 (tNewR_ok n r16) fN) [] [] [0, 1, 2, 3] ⟨[(0, kH 0), (3, kB r10), (4, kP 1 0)], [], [ob 5 l0, ⟨.blk, 68, 1, 3, .c [.wh 2, .s (.k .i64 0), .wh 3]⟩, nb 5 r16.1, nz 3 r16.2]⟩ (aP g2 aN) ?_
  obtain ⟨r17, g3, h⟩ := bind_some' h
  refine Vgs hT (fT 0 (wNew_ok n r17) fN) [] [] [0, 1, 2, 3, 4, 5, 6] ⟨[(0, kH 0), (3, kB r10), (4, kP 1 0), (5, kP 4 0)], [], [ob 5 l0, ⟨.blk, 68, 1, 3, .c [.wh 2, .s (.k .i64 0), .wh 3]⟩, nb 5 r16.1, nz 3 r16.2, ⟨.blk, 58, 1, 2, .c [.wh 5, .s (.v .nilIface)]⟩, ⟨.row, 64, 2, 1, .c [.s (.u8 0), .wh 6]⟩, ⟨.row, 5, 1, 0, .b []⟩]⟩ (aP g3 aN) ?_
  refine W_seq ?_
  refine Vrs hT [0, 1, 2, 3, 4, 5, 6] ⟨[(0, kH 0), (3, kB r10), (4, kP 1 0), (5, kP 4 0), (23, kB false)], [], [ob 5 l0, ⟨.blk, 68, 1, 3, .c [.wh 2, .s (.k .i64 0), .wh 3]⟩, nb 5 r16.1, nz 3 r16.2, ⟨.blk, 58, 1, 2, .c [.wh 5, .s (.v .nilIface)]⟩, ⟨.row, 64, 2, 1, .c [.s (.u8 0), .wh 6]⟩, ⟨.row, 5, 1, 0, .b []⟩]⟩ ?_
  refine Vi (false) (fun hb => by cases hb) (fun _ => ?_)
  refine Vc [] [0, 1, 2, 3, 4, 5, 6] ⟨[(0, kH 0), (3, kB r10), (4, kP 1 0), (5, kP 4 0)], [], [ob 5 l0, ⟨.blk, 68, 1, 3, .c [.wh 2, .s (.k .i64 0), .wh 3]⟩, nb 5 r16.1, nz 3 r16.2, ⟨.blk, 58, 1, 2, .c [.wh 5, .s (.v .nilIface)]⟩, ⟨.row, 64, 2, 1, .c [.s (.u8 0), .wh 6]⟩, ⟨.row, 5, 1, 0, .b []⟩]⟩ (W_skip ?_)
  refine W_seq ?_
  refine W_cod [.oc 5 (.pr .u8 (.by 5)), .ps 5 [6]] [0] [] [0, 3, 4, 5] [0, 1, 2, 3, 4, 5, 8] (s' := ⟨[(0, kH 0), (3, kB r10), (4, kP 1 0), (5, kP 4 0)], [], [ob 5 l0, ⟨.blk, 68, 1, 3, .c [.wh 2, .s (.k .i64 0), .wh 3]⟩, nb 5 r16.1, nz 3 r16.2, ⟨.blk, 58, 1, 2, .c [.wh 5, .s (.v .nilIface)]⟩, ⟨.row, 64, 2, (([] : List (UInt8 × List UInt8)) ++ [(0, [])]).length, .g 6 ((([] : List (UInt8 × List UInt8)) ++ [(0, [])]).length) 2 []⟩, ⟨.og, 64, 2, (([] : List (UInt8 × List UInt8)) ++ [(0, [])]).length, .d (.pr .u8 (.by 5)) (([] : List (UInt8 × List UInt8)) ++ [(0, [])])⟩]⟩) (by kernel_rfl) ?_
  obtain ⟨r26, g4, h⟩ := bind_some' h
  replace g4 := mgA (([] : List (UInt8 × List UInt8)) ++ [(0, [])]).length g4
  refine Vg hT (fM 2 (lagain_ok n r26) fN) [] [] [0, 1, 7, 8, 4, 9, 10] ⟨[(0, kH 0), (3, kB r10), (4, kP 1 0), (5, kP 4 0), (6, kB r26.2.2.2.2)], [], [ob 5 l0, ⟨.blk, 68, 1, 3, .c [.wh 2, .s (.k .i64 r26.1), .wh 3]⟩, nb 5 r16.1, nz 3 r26.2.1, ⟨.blk, 58, 1, 2, .c [.wh 5, .s (.er 29 .i64 r26.2.2.2.1)]⟩, ⟨.row, 64, 2, r26.2.2.1.length, .g 6 r26.2.2.1.length 2 []⟩, ⟨.og, 64, 2, r26.2.2.1.length, .d (.pr .u8 (.by 5)) r26.2.2.1⟩]⟩ (aP g4 aN) ?_
  refine W_seq ?_
  refine Vrs hT [0, 1, 2, 3, 4, 5, 6] ⟨[(0, kH 0), (3, kB r10), (4, kP 1 0), (5, kP 4 0), (28, kB (!r26.2.2.2.2))], [], [ob 5 l0, ⟨.blk, 68, 1, 3, .c [.wh 2, .s (.k .i64 r26.1), .wh 3]⟩, nb 5 r16.1, nz 3 r26.2.1, ⟨.blk, 58, 1, 2, .c [.wh 5, .s (.er 29 .i64 r26.2.2.2.1)]⟩, ⟨.row, 64, 2, r26.2.2.1.length, .g 6 r26.2.2.1.length 2 []⟩, ⟨.og, 64, 2, r26.2.2.1.length, .d (.pr .u8 (.by 5)) r26.2.2.1⟩]⟩ ?_
  refine Vi ((!r26.2.2.2.2)) (fun g10 => ?_) (fun g10 => ?_)
  ·replace h := bif_t h g10
   refine Vrs hT [] ⟨[(2, kB r10)], [], []⟩ ?_
   refine Vc [] [] (lBack_R r10) (W_ret ?_)
   exact ⟨.inl rfl, by cases h; rfl⟩
  ·replace h := bif_f h g10
   refine Vc [] [0, 1, 2, 3, 4, 5, 6] ⟨[(0, kH 0), (3, kB r10), (4, kP 1 0), (5, kP 4 0)], [], [ob 5 l0, ⟨.blk, 68, 1, 3, .c [.wh 2, .s (.k .i64 r26.1), .wh 3]⟩, nb 5 r16.1, nz 3 r26.2.1, ⟨.blk, 58, 1, 2, .c [.wh 5, .s (.er 29 .i64 r26.2.2.2.1)]⟩, ⟨.row, 64, 2, r26.2.2.1.length, .g 6 r26.2.2.1.length 2 []⟩, ⟨.og, 64, 2, r26.2.2.1.length, .d (.pr .u8 (.by 5)) r26.2.2.1⟩]⟩ (W_skip ?_)
   refine W_seq ?_
   obtain ⟨r32, g5, h⟩ := bind_some' h
   replace g5 := mgA r26.2.2.1.length g5
   refine Vg hT (fM 1 (wBytes_ok n r32) fN) [] [] [0, 1, 2, 3, 9] ⟨[(0, kH 0), (3, kB r10), (4, kP 1 0), (7, kH 4), (8, kE 29 r32.2.2.2)], [], [ob 5 l0, ⟨.blk, 68, 1, 3, .c [.wh 2, .s (.k .i64 r26.1), .wh 3]⟩, nb 5 r16.1, nz 3 r26.2.1, nb 5 r32.2.2.1]⟩ (aP g5 aN) ?_
   obtain ⟨r36, g6, h⟩ := bind_some' h
   refine Vgs hT (fM 1 (tEnd_ok n r36) fN) [] [] [0, 4] ⟨[(0, kH 0), (3, kB r10), (7, kH 1), (8, kE 29 r32.2.2.2), (9, kE 29 r36)], [], [ob 5 l0, nb 5 r32.2.2.1]⟩ (aP g6 aN) ?_
   refine W_seq ?_
   rcases Bool.eq_false_or_eq_true r10 with g7 | g7
   ·replace h := bif_t h g7
    rcases Bool.eq_false_or_eq_true ((r32.2.2.2).isNone) with g8 | g8
    ·replace h := bif_t h g8
     rcases Bool.eq_false_or_eq_true ((r36).isNone) with g9 | g9
     ·replace h := bif_t h g9
      refine Vg hT fN [(1, true), (5, true), (9, true)] [] [] ⟨[(2, kB (r32.2.2.1 == l0))], [], []⟩ (aP g7 (aP g8 (aP g9 aN))) ?_
      refine Vc [] [] (lBack_R (r32.2.2.1 == l0)) (W_ret ?_)
      exact ⟨.inl rfl, by cases h; rfl⟩
     ·replace h := bif_f h g9
      refine Vg hT fN [(1, true), (5, true), (9, false)] [] [] ⟨[(2, kB false)], [], []⟩ (aP g7 (aP g8 (aP g9 aN))) ?_
      refine Vc [] [] (lBack_R false) (W_ret ?_)
      exact ⟨.inl rfl, by cases h; rfl⟩
    ·replace h := bif_f h g8
     refine Vg hT fN [(1, true), (5, false)] [] [] ⟨[(2, kB false)], [], []⟩ (aP g7 (aP g8 aN)) ?_
     refine Vc [] [] (lBack_R false) (W_ret ?_)
     exact ⟨.inl rfl, by cases h; rfl⟩
   ·replace h := bif_f h g7
    refine Vg hT fN [(1, false)] [] [] ⟨[(2, kB false)], [], []⟩ (aP g7 aN) ?_
    refine Vc [] [] (lBack_R false) (W_ret ?_)
    exact ⟨.inl rfl, by cases h; rfl⟩
end Go.Proofs.Ytcdljciflkefaaa
end
section
namespace Go.Sx
open Go Go.RowKit Go.Ch Go.Proofs.Ytcdljciflkefaaa
theorem tEnter_deep {n : Nat} (hn : 3 ≤ n) {b : List UInt8} {at_ e : Nat} {L : List UInt8} (h : At0 b at_ e L) (es : List Int) (hes : 24 ≤ es.length) (hes2 : es.length ≤ 1000) (hb : b.length ≤ 1000000) (m : UInt8) :
  ∃ c, tEnter n b (at_ : Int) (es ++ [(e : Int)]) m = some ((at_ : Int), es ++ [(e : Int)], some c) := by
 unfold tEnter
 rw [tleft_at n h es (by omega) hb, Option.bind_some]
 simp only []
 rw [h.nil, h.left]
 by_cases hL : L = []
 ·subst hL; exact ⟨_, rfl⟩
 ·have hlen : 0 < L.length := List.length_pos_iff.2 hL
  have h1 := h.fin; have h2 := h.le
  rw [show L.isEmpty = false by cases L with | nil => exact absurd rfl hL | cons _ _ => rfl, cond_false, gd_pos (by omega), gd_pos (by omega), h.hd hL]
  by_cases hm : L.getD 0 0 = m
  ·rw [ite_f (by rw [hm]; simp), thead_cf hn (by omega), Option.bind_some]
   cases hr : (hR L).2.2 with
   | false => exact ⟨_, rfl⟩
   | true =>
    rw [show (!true) = false from rfl, cond_false, tisW_is, Option.bind_some]
    cases hw : whV m with
    | false => exact ⟨_, rfl⟩
    | true =>
     have hl : (es ++ [(e : Int)]).length = es.length + 1 := by simp
     rw [show (!true) = false from rfl, cond_false, ite_t (decide_eq_true (by omega))]
     exact ⟨_, rfl⟩
  ·rw [ite_t (by simpa using hm)]
   exact ⟨_, rfl⟩
structure Sane (b : List UInt8) (at_ : Nat) (ends : List Int) : Prop where
 ne : ends ≠ []
 len : ends.length ≤ 30
 el : ∀ x ∈ ends, ∃ e : Nat, x = (e : Int) ∧ at_ ≤ e ∧ e ≤ b.length
theorem At0.mk' {b : List UInt8} {at_ e : Nat} (h1 : at_ ≤ e) (h2 : e ≤ b.length) : At0 b at_ e ((b.drop at_).take (e - at_)) :=
 ⟨⟨(b.drop at_).drop (e - at_), (List.take_append_drop _ _).symm⟩, by rw [List.length_take, List.length_drop]; omega, h2⟩
theorem At0.nil0 {b : List UInt8} {e : Nat} (h : e ≤ b.length) : At0 b e e [] := ⟨⟨b.drop e, rfl⟩, rfl, h⟩
theorem Sane.leave {b : List UInt8} {at_ : Nat} {ends : List Int} (h : Sane b at_ ends) (n : Nat) (hb : b.length ≤ 1000000) : ∃ ends' f, tLeave n b (at_ : Int) ends = some (ends', f) ∧ Sane b at_ ends' := by
 obtain ⟨es, x, rfl⟩ := snoc_of_ne h.ne
 obtain ⟨e, rfl, h1, h2⟩ := h.el x (by simp)
 have hl := h.len
 have hl2 : (es ++ [(e : Int)]).length = es.length + 1 := by simp
 by_cases he : es = []
 ·subst he
  exact ⟨_, _, by unfold tLeave; rw [ite_t (by rfl)], h⟩
 ·rw [tLeave_at n (At0.mk' h1 h2) es he (by omega) hb]
  split
  ·exact ⟨_, _, rfl, ⟨he, by omega, fun y hy => h.el y (List.mem_append_left _ hy)⟩⟩
  ·exact ⟨_, _, rfl, h⟩
theorem wPut_v (n : Nat) {d0 : List (UInt8 × List UInt8)} {m0 m : UInt8} {a0 b : List UInt8} (hm : mkV m = true) (hw : whV m = false) (hb : b.length ≤ 65535) (hb0 : a0.length ≤ 65535) (hd : d0.length ≤ 900) :
  wPut n (d0 ++ [(m0, a0)]) none m b = some (d0 ++ [(m0, a0 ++ elF m b)], none) := by
 unfold wPut; rw [ite_f (by rfl), tvalid_v, hm, Option.bind_some, ite_f (by rfl), tisW_is, hw, Option.bind_some, ite_f (by rfl), wadd_is n hm (by omega) (by omega) (by omega), List.append_assoc]; rfl
theorem wOpen_v (n : Nat) {d : List (UInt8 × List UInt8)} {m : UInt8} (hm : mkV m = true) (hw : whV m = true) (hd : d.length ≤ 24) : wOpen n d none m = some (d ++ [(m, [])], none) := by
 unfold wOpen; rw [ite_f (by rfl), tvalid_v, hm, Option.bind_some, ite_f (by rfl), tisW_is, hw, Option.bind_some, ite_f (by rfl), ite_f (decide_eq_false (by omega)), gd_pos (by unfold rmB; omega)]
abbrev AgT := Int × List Int × List (UInt8 × List UInt8) × Option Int × Bool
def AgR (b : List UInt8) (es : List Int) (e : Nat) (d0 : List (UInt8 × List UInt8)) (m0 : UInt8) (a0 L : List UInt8) (r : AgT) : Prop :=
 (r = ((e : Int), es ++ [(e : Int)], d0 ++ [(m0, a0 ++ L)], none, true)) ∨ (r.2.2.2.2 = false ∧ ∃ at2 : Nat, r.1 = (at2 : Int) ∧ Sane b at2 r.2.1)
theorem again_l1 {b : List UInt8} (hb : b.length ≤ 2000) (n : Nat) (ih : ∀ (at_ e : Nat) (L : List UInt8) (es : List Int) (d0 : List (UInt8 × List UInt8)) (m0 : UInt8) (left : Nat), left ≤ 1200 → left + 5 ≤ n → At0 b at_ e L → (∀ x ∈ es, ∃ e' : Nat, x = (e' : Int) ∧ e ≤ e' ∧ e' ≤ b.length) → es.length = d0.length → d0.length ≤ 24 →
   ∃ r, lagain n b (at_ : Int) (es ++ [(e : Int)]) (d0 ++ [(m0, [])]) none (left : Int) = some r ∧ AgR b es e d0 m0 [] L r) :
  ∀ (fu : Nat) (at_ e : Nat) (L a0 : List UInt8) (es : List Int) (d0 : List (UInt8 × List UInt8)) (m0 : UInt8) (left : Nat), left ≤ 1200 → left < fu → left + 4 ≤ n → At0 b at_ e L → (∀ x ∈ es, ∃ e' : Nat, x = (e' : Int) ∧ e ≤ e' ∧ e' ≤ b.length) → es.length = d0.length → d0.length ≤ 24 → a0.length + L.length ≤ 2000 →
   ∃ r, lagain_l1 n (lagain n) b fu (at_ : Int) (es ++ [(e : Int)]) (d0 ++ [(m0, a0)]) none (left : Int) = some r ∧ AgR b es e d0 m0 a0 L r
 | 0, at_, e, L, a0, es, d0, m0, left, _, hf, _, _, _, _, _, _ => absurd hf (Nat.not_lt_zero _)
 | fu + 1, at_, e, L, a0, es, d0, m0, left, hq, hf, hn, h, hes, hel, hd, hl => by
  have h1 := h.fin; have h2 := h.le
  have hsane : Sane b at_ (es ++ [(e : Int)]) := ⟨by simp, by simp; omega, fun x hx => by
   rcases List.mem_append.1 hx with hx | hx
   ·obtain ⟨e', rfl, h3, h4⟩ := hes x hx
    exact ⟨e', rfl, by omega, h4⟩
   ·rw [List.mem_singleton.1 hx]; exact ⟨e, rfl, by omega, h2⟩⟩
  rw [lagain_l1]
  by_cases hlf : 0 < left
  ·rw [ite_t (decide_eq_true (by omega)), tNext_at n h es (by omega) (by omega), Option.bind_some]
   by_cases hL : L = []
   ·subst hL
    refine ⟨_, rfl, .inl ?_⟩
    have : at_ = e := by simpa using h1.symm
    subst this
    rw [List.append_nil]
   ·rw [if_neg hL]
    simp only []
    rw [show (!true) = false from rfl, cond_false, rWhole_is, Option.bind_some]
    generalize hm : L.getD 0 0 = m
    have next : ∀ (at2 : Nat) (X rest : List UInt8), L = X ++ rest → at2 = at_ + X.length → ∃ r, lagain_j1 n (lagain n) b (left : Int) (lagain_l1 n (lagain n) b fu) (at2 : Int) (es ++ [(e : Int)]) (d0 ++ [(m0, a0 ++ X)]) none = some r ∧ AgR b es e d0 m0 a0 L r := fun at2 X rest hX ha => by
     subst hX; subst ha
     unfold lagain_j1
     rw [gd_pos (okI64 (by omega) (by omega)), show (left : Int) - 1 = ((left - 1 : Nat) : Int) by omega]
     have hl2 : (X ++ rest).length = X.length + rest.length := List.length_append
     obtain ⟨r, hr, hA⟩ := again_l1 hb n ih fu (at_ + X.length) e rest (a0 ++ X) es d0 m0 (left - 1) (by omega) (by omega) (by omega) h.step hes hel hd (by rw [List.length_append]; omega)
     refine ⟨r, hr, ?_⟩
     rcases hA with hA | hA
     ·exact .inl (by rw [hA, List.append_assoc])
     ·exact .inr hA
    cases hw : whV m with
    | true =>
     rw [cond_true]
     by_cases h24 : es.length ≤ 23
     ·rcases tEnter_at (n := n) (by omega) h es h24 (by omega) m with ⟨body, rest, hel2, _, hE⟩ | ⟨⟨c, hE⟩, _⟩
      ·obtain ⟨k1, k2, k3, _⟩ := elO_some hel2
       have hin : At0 b (at_ + (hdF m (body.length : Int)).length) (at_ + (elF m body).length) body := by
        rw [k1] at h
        have h5 := h.into
        unfold elF at h5 ⊢
        have h6 := h5.step
        exact h6
       have hee : at_ + (elF m body).length ≤ e := by rw [h1, k1, List.length_append]; omega
       have hbl : body.length ≤ L.length := by rw [k1]; unfold elF; rw [List.length_append, List.length_append]; omega
       rw [hE, Option.bind_some]
       simp only [Option.isNone_none, Bool.not_true, cond_false]
       rw [wOpen_v n k2 hw (by simp; omega), Option.bind_some, gd_pos (okI64 (by omega) (by omega)), show (left : Int) - 1 = ((left - 1 : Nat) : Int) by omega]
       obtain ⟨r, hr, hA⟩ := ih (at_ + (hdF m (body.length : Int)).length) (at_ + (elF m body).length) body (es ++ [(e : Int)]) (d0 ++ [(m0, a0)]) m (left - 1) (by omega) (by omega) hin (fun x hx => by
        rcases List.mem_append.1 hx with hx | hx
        ·obtain ⟨e', rfl, h3, h4⟩ := hes x hx
         exact ⟨e', rfl, by omega, h4⟩
        ·rw [List.mem_singleton.1 hx]; exact ⟨e, rfl, hee, h2⟩) (by simp [hel]) (by simp; omega)
       rw [hr, Option.bind_some]
       rcases hA with rfl | ⟨hf1, at2, hat, hsn⟩
       ·have h0 : At0 b (at_ + (elF m body).length) (at_ + (elF m body).length) [] := At0.nil0 (Nat.le_trans hee h2)
        simp only []
        rw [tLeave_at n h0 (es ++ [(e : Int)]) (by simp) (by simp; omega) (by omega), if_pos rfl, Option.bind_some]
        simp only [Bool.not_true, cond_false, Option.isNone_none, List.nil_append]
        rw [wClose_is n k2 (by omega) (by omega) (by omega), Option.bind_some]
        have := next (at_ + (elF m body).length) (elF m body) rest k1 rfl
        rw [List.append_assoc]
        exact this
       ·rw [hat]
        obtain ⟨ends', f, hv, hs2⟩ := hsn.leave n (by omega)
        rw [hv, Option.bind_some, hf1]
        exact ⟨_, rfl, .inr ⟨rfl, at2, rfl, hs2⟩⟩
      ·rw [hE, Option.bind_some]
       exact ⟨_, rfl, .inr ⟨rfl, at_, rfl, hsane⟩⟩
     ·obtain ⟨c, hE⟩ := tEnter_deep (n := n) (by omega) h es (by omega) (by omega) (by omega) m
      rw [hE, Option.bind_some]
      exact ⟨_, rfl, .inr ⟨rfl, at_, rfl, hsane⟩⟩
    | false =>
     rw [cond_false]
     rcases tTake_at (n := n) (by omega) h es (by omega) (by omega) m with ⟨body, rest, hel2, _, hE⟩ | ⟨⟨c, hE⟩, _⟩
     ·obtain ⟨k1, k2, k3, _⟩ := elO_some hel2
      have hbl : body.length ≤ L.length := by rw [k1]; unfold elF; rw [List.length_append, List.length_append]; omega
      rw [hE, Option.bind_some]
      simp only [Option.isNone_none, Bool.not_true, cond_false]
      rw [wPut_v n k2 hw (by omega) (by omega) (by omega), Option.bind_some]
      exact next (at_ + (elF m body).length) (elF m body) rest k1 rfl
     ·rw [hE, Option.bind_some]
      exact ⟨_, rfl, .inr ⟨rfl, at_, rfl, hsane⟩⟩
  ·rw [ite_f (decide_eq_false (by omega))]
   exact ⟨_, rfl, .inr ⟨rfl, at_, rfl, hsane⟩⟩
theorem again_is {b : List UInt8} (hb : b.length ≤ 2000) : ∀ (n : Nat) (at_ e : Nat) (L : List UInt8) (es : List Int) (d0 : List (UInt8 × List UInt8)) (m0 : UInt8) (left : Nat), left ≤ 1200 → left + 5 ≤ n → At0 b at_ e L → (∀ x ∈ es, ∃ e' : Nat, x = (e' : Int) ∧ e ≤ e' ∧ e' ≤ b.length) → es.length = d0.length → d0.length ≤ 24 →
   ∃ r, lagain n b (at_ : Int) (es ++ [(e : Int)]) (d0 ++ [(m0, [])]) none (left : Int) = some r ∧ AgR b es e d0 m0 [] L r
 | 0, at_, e, L, es, d0, m0, left, _, hn, _, _, _, _ => absurd hn (by omega)
 | n + 1, at_, e, L, es, d0, m0, left, hq, hn, h, hes, hel, hd => by
  unfold lagain
  have h1 := h.fin; have h2 := h.le
  exact again_l1 hb n (again_is hb n) n at_ e L [] es d0 m0 left hq (by omega) (by omega) h hes hel hd (by simp; omega)
theorem tup_is2 : tup 1300 = some true := by decide +kernel
theorem At0.all (b : List UInt8) : At0 b 0 b.length b := ⟨⟨[], by simp⟩, by simp, Nat.le_refl _⟩
theorem lBack_is (b : List UInt8) : lBack 1300 b = some true := by
 unfold lBack
 rw [tup_is2, Option.bind_some]
 by_cases hb : b.length ≤ 2000
 ·rw [ite_f (decide_eq_false (by omega))]
  unfold tNewR
  rw [gd_pos (by omega), Option.bind_some]
  unfold wNew
  rw [Option.bind_some]
  obtain ⟨r, hr, hA⟩ := again_is hb 1300 0 b.length b [] [] 0 1200 (by omega) (by omega) (At0.all b) (fun x hx => nomatch hx) rfl (by simp)
  have hr' : lagain 1300 b 0 [(b.length : Int)] (([] : List (UInt8 × List UInt8)) ++ [(0, [])]) none 1200 = some r := hr
  rw [hr', Option.bind_some]
  rcases hA with rfl | ⟨hf, _⟩
  ·have e1 : wBytes 1300 ([] ++ [((0 : UInt8), ([] : List UInt8) ++ b)]) none = some ([(0, b)], none, b, none) := by
    unfold wBytes
    rw [ite_f (by rfl), ite_f (by rfl), lastS_app, Option.bind_some, gd_pos (by omega), gd_pos (by simp), gd_pos (by simp), gd_pos (by rfl), gd_pos (by show b.length ≤ _; omega)]
    rfl
   have h0 : At0 b b.length b.length [] := ⟨⟨[], by simp⟩, rfl, Nat.le_refl _⟩
   have e2 : tEnd 1300 b (b.length : Int) [(b.length : Int)] = some none := by rw [tEnd_at 1300 h0 (by omega), if_pos rfl]
   simp only [Bool.not_true, cond_false]
   rw [e1, Option.bind_some]
   show ((tEnd 1300 b (b.length : Int) [(b.length : Int)]).bind _) = _
   rw [e2, Option.bind_some]
   simp
  ·rw [hf]; rfl
 ·rw [ite_t (decide_eq_true (by omega))]
end Go.Sx
end
section
namespace Go.Sx
open Go Go.RowKit Go.Ch Go.Proofs.Ytcdljciflkefaaa
end Go.Sx
namespace Go.Proofs.Ytcdljciflkefaaa
open Go.RowKit Go.Ch Go.Sx
theorem tlvBack_c (w : World) (B0 : Nat) (v0 : Value) (l0 : List UInt8) (hv0 : Sl w B0 v0 (l0.map bU)) :
  Calls Try.prog 6 #[v0] w (Ret fun v' w' => Ext w w' ∧ v' = .bool true) := by
 obtain ⟨p0, a0, b0⟩ := in_b hv0 5
 exact law_of (lBack_ok 1300 true) (args := [.c (.wh 0)]) (H := [⟨.ro false, 5, 1, l0.length, .b l0⟩]) (ρ := plL [p0]) (vals := [v0]) rfl (allP_cons.2 ⟨(lBack_is l0), allP_nil⟩) trivial (hpL (ps := [p0]) (F2.cons b0 F2.nil)) (F2.cons a0 F2.nil)
end Go.Proofs.Ytcdljciflkefaaa
end
