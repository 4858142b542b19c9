import Derived.Test.YtcdljciflkefaaaZ3
import Derived.Test.YtcdljciflkefaaaProg
set_option linter.unusedVariables false
set_option linter.unusedSimpArgs false
section
namespace Go.Proofs.Ytcdljciflkefaaa
open Go.RowKit Go.Ch Go.Sx
def tabL_nwb : List (TypeId × Ti) := [(5, ⟨.int .u8, 1, 1, true, some [.int .u8]⟩),
 (23, ⟨.sl 5, 1, 24, false, some [.nils]⟩),
 (25, ⟨.ifc, 1, 16, true, some [.ifc]⟩),
 (29, ⟨.int .i64, 1, 8, true, some [.int .i64]⟩),
 (33, ⟨.ptr 58, 1, 8, true, some [.ptr]⟩),
 (56, ⟨.sl 64, 1, 24, false, some [.nils]⟩),
 (58, ⟨.st [(56, 0), (25, 1)], 2, 40, false, some [.nils, .ifc]⟩),
 (64, ⟨.st [(5, 0), (23, 1)], 2, 32, false, some [.int .u8, .nils]⟩)]
def tab_nwb : Tab := fun t => (tabL_nwb).lookup t
theorem tabE_nwb : (tabL_nwb.map fun p => tiOf Try.prog p.1) = tabL_nwb.map fun p => some p.2 := by kernel_rfl
theorem tabO_nwb : TabOk Try.prog tab_nwb := tab_of tabE_nwb
def wfail (n : Nat) (a0_0 : List (UInt8 × List UInt8)) (a0_1 : Option Int) (a1 : Option Int) : Option (Option Int) :=
 bif ((a0_1).isNone) then
 some a1
 else
 some a0_1
def wadd (n : Nat) (a0_0 : List (UInt8 × List UInt8)) (a0_1 : Option Int) (a1 : UInt8) (a2 : List UInt8) : Option (List (UInt8 × List UInt8) × Option Int) :=
 (tHead n a1 ((a2.length : Nat) : Int)).bind fun r13 =>
 bif (!((r13.2).isNone)) then
  (wfail n a0_0 a0_1 r13.2).bind fun r20 =>
  some (a0_0, r20)
 else
  gd (okI .i64 (((a0_0.length : Nat) : Int) - 1)) <|
  gd (0 ≤ (((a0_0.length : Nat) : Int) - 1)) <|
  gd ((((a0_0.length : Nat) : Int) - 1) < ((a0_0.length : Nat) : Int)) <|
  (lastS a0_0).bind fun p4 =>
  gd (((((((a0_0.length : Nat) : Int) - 1).toNat) * 2) + 1) < a0_0.length * 2) <|
  gd (((((((a0_0.length : Nat) : Int) - 1).toNat) * 2) + 1) = p4.1.length * 2 + 1) <|
  gd (rmB (p4.2.2.length + r13.1.length) 1) <|
  gd (rmB (((p4.2.2 ++ r13.1).length) + a2.length) 1) <|
  gd (((((((a0_0.length : Nat) : Int) - 1).toNat) * 2) + 1) < a0_0.length * 2) <|
  gd (((((((a0_0.length : Nat) : Int) - 1).toNat) * 2) + 1) = p4.1.length * 2 + 1) <|
  some ((p4.1 ++ [(p4.2.1, ((p4.2.2 ++ r13.1) ++ a2))]), a0_1)
def wPut (n : Nat) (a0_0 : List (UInt8 × List UInt8)) (a0_1 : Option Int) (a1 : UInt8) (a2 : List UInt8) : Option (List (UInt8 × List UInt8) × Option Int) :=
 bif (!((a0_1).isNone)) then
  some (a0_0, a0_1)
 else
  (tvalid n a1).bind fun r18 =>
  bif (!r18) then
   (wfail n a0_0 a0_1 (some 1)).bind fun r26 =>
   some (a0_0, r26)
  else
   (tisW n a1).bind fun r22 =>
   bif r22 then
    (wfail n a0_0 a0_1 (some 1)).bind fun r26 =>
    some (a0_0, r26)
   else
    (wadd n a0_0 a0_1 a1 a2).bind fun r9 =>
    some (r9.1, r9.2)
def wOpen (n : Nat) (a0_0 : List (UInt8 × List UInt8)) (a0_1 : Option Int) (a1 : UInt8) : Option (List (UInt8 × List UInt8) × Option Int) :=
 bif (!((a0_1).isNone)) then
  some (a0_0, a0_1)
 else
  (tvalid n a1).bind fun r23 =>
  bif (!r23) then
   (wfail n a0_0 a0_1 (some 1)).bind fun r32 =>
   some (a0_0, r32)
  else
   (tisW n a1).bind fun r27 =>
   bif (!r27) then
    (wfail n a0_0 a0_1 (some 1)).bind fun r32 =>
    some (a0_0, r32)
   else
    bif (decide ((24 : Int) < ((a0_0.length : Nat) : Int))) then
     (wfail n a0_0 a0_1 (some 5)).bind fun r42 =>
     some (a0_0, r42)
    else
     gd (rmB (a0_0.length + 1) 32) <|
     some ((a0_0 ++ [(a1, [])]), a0_1)
def wClose (n : Nat) (a0_0 : List (UInt8 × List UInt8)) (a0_1 : Option Int) : Option (List (UInt8 × List UInt8) × Option Int) :=
 bif (!((a0_1).isNone)) then
  some (a0_0, a0_1)
 else
  bif (((a0_0.length : Nat) : Int) == 1) then
   (wfail n a0_0 a0_1 (some 17)).bind fun r50 =>
   some (a0_0, r50)
  else
   (lastS a0_0).bind fun p0 =>
   gd (okI .i64 (((a0_0.length : Nat) : Int) - 1)) <|
   gd (0 ≤ (((a0_0.length : Nat) : Int) - 1)) <|
   gd ((((a0_0.length : Nat) : Int) - 1) < ((a0_0.length : Nat) : Int)) <|
   gd ((((((a0_0.length : Nat) : Int) - 1).toNat) * 2) = p0.1.length * 2) <|
   gd (okI .i64 (((a0_0.length : Nat) : Int) - 1)) <|
   gd (0 ≤ (((a0_0.length : Nat) : Int) - 1)) <|
   gd ((((a0_0.length : Nat) : Int) - 1) ≤ ((a0_0.length : Nat) : Int)) <|
   gd ((((a0_0.length : Nat) : Int) - 1).toNat = p0.1.length) <|
   (wadd n p0.1 a0_1 p0.2.1 p0.2.2).bind fun r34 =>
   some (r34.1, r34.2)
def wBytes (n : Nat) (a0_0 : List (UInt8 × List UInt8)) (a0_1 : Option Int) : Option (List (UInt8 × List UInt8) × Option Int × List UInt8 × Option Int) :=
 bif (!((a0_1).isNone)) then
  some (a0_0, a0_1, [], a0_1)
 else
  bif (decide ((1 : Int) < ((a0_0.length : Nat) : Int))) then
   some (a0_0, a0_1, [], (some 17))
  else
   (lastS a0_0).bind fun p5 =>
   gd (0 ≤ (0 : Int)) <|
   gd ((0 : Int) < ((a0_0.length : Nat) : Int)) <|
   gd (1 < a0_0.length * 2) <|
   gd (1 = p5.1.length * 2 + 1) <|
   gd ((p5.2.2).length ≤ 1000000000000) <|
   some ((p5.1 ++ [(p5.2.1, p5.2.2)]), a0_1, p5.2.2, none)
def wfail_R (a0_0 : List (UInt8 × List UInt8)) (r : Option Int) : S := ⟨[], [(1000000, kP 0 0)], [⟨.blk, 58, 1, 2, .c [.wh 1, .s (.er 29 .i64 r)]⟩, ⟨.row, 64, 2, a0_0.length, .g 2 a0_0.length 2 []⟩, ⟨.og, 64, 2, a0_0.length, .d (.pr .u8 (.by 5)) a0_0⟩]⟩
def wfail_ct (n : Nat) (r : Option Int) : CtM := ctM (cmm (mP 58 (mC (mG 64 (.pr .u8 (.by 5))) (mC (mEr 29) mN))) fun y0 => cmc (rEr 29).rd fun l1 => cmR (y0.1.1 = y0.1.2.length ∧ wfail n y0.1.2 y0.2.1 l1 = some r) (.t []) [⟨.blk, 58, 1, 2, .c [.wh 0, .s (.er 29 .i64 r)]⟩] [⟨.row, 64, 2, y0.1.2.length, .g 1 y0.1.2.length 2 []⟩, ⟨.og, 64, 2, y0.1.2.length, .d (.pr .u8 (.by 5)) y0.1.2⟩])
theorem wfail_ok (n : Nat) (r : Option Int) : FnMOk Try.prog 31 (wfail_ct n r) := by
 refine fnokM Try.func31 ?_
 refine HM_m (mP 58 (mC (mG 64 (.pr .u8 (.by 5))) (mC (mEr 29) mN))) (fun (p0 : ((Nat × List (UInt8 × List UInt8)) × (Option Int) × Unit)) => ?_) (allOwn_ok rfl)
 obtain ⟨⟨k0_0, l0_0⟩, l0_1, _⟩ := p0
 refine HM_c (rEr 29) fun l1 _ => HM_0 tabO_nwb (wfail_R l0_0 r) [] [0, 1, 2] 13 1 Try.func31 fun w bs h => ?_
 obtain ⟨ek0_0, h⟩ := h
 replace ek0_0 : k0_0 = l0_0.length := ek0_0
 subst ek0_0
 have h : wfail n l0_0 l0_1 l1 = some r := h
 unfold wfail at h
 have hT := tabO_nwb
 refine Vrs hT [0, 1, 2] ⟨[(0, kP 0 0), (1, kE 29 l1), (8, kB ((l0_1).isNone))], [(1000000, kP 0 0)], [⟨.blk, 58, 1, 2, .c [.wh 1, .s (.er 29 .i64 l0_1)]⟩, ⟨.row, 64, 2, l0_0.length, .g 2 l0_0.length 2 []⟩, ⟨.og, 64, 2, l0_0.length, .d (.pr .u8 (.by 5)) l0_0⟩]⟩ ?_
 refine Vi ((l0_1).isNone) (fun g1 => ?_) (fun g1 => ?_)
 ·replace h := bif_t h g1
  refine Vr hT [0, 1, 2] (wfail_R l0_0 l1) ?_
  exact ⟨.inr rfl, by cases h; rfl⟩
 ·replace h := bif_f h g1
  refine Vc [] [0, 1, 2] (wfail_R l0_0 l0_1) (W_skip ?_)
  exact ⟨.inr rfl, by cases h; rfl⟩
def wadd_R (r : List (UInt8 × List UInt8) × Option Int) : S := ⟨[], [(1000000, kP 0 0)], [⟨.blk, 58, 1, 2, .c [.wh 1, .s (.er 29 .i64 r.2)]⟩, ⟨.row, 64, 2, r.1.length, .g 2 r.1.length 2 []⟩, ⟨.og, 64, 2, r.1.length, .d (.pr .u8 (.by 5)) r.1⟩]⟩
def wadd_ct (n : Nat) (r : List (UInt8 × List UInt8) × Option Int) : CtM := ctM (cmm (mP 58 (mC (mG 64 (.pr .u8 (.by 5))) (mC (mEr 29) mN))) fun y0 => cmc rU8.rd fun l1 => cmb fun l2 => cmR (y0.1.1 = y0.1.2.length ∧ wadd n y0.1.2 y0.2.1 l1 l2 = some r) (.t []) [⟨.blk, 58, 1, 2, .c [.wh 0, .s (.er 29 .i64 r.2)]⟩] [⟨.row, 64, 2, r.1.length, .g 1 r.1.length 2 []⟩, ⟨.og, 64, 2, r.1.length, .d (.pr .u8 (.by 5)) r.1⟩])
theorem wadd_ok (n : Nat) (r : List (UInt8 × List UInt8) × Option Int) : FnMOk Try.prog 32 (wadd_ct n r) := by
 refine fnokM Try.func32 ?_
 refine HM_m (mP 58 (mC (mG 64 (.pr .u8 (.by 5))) (mC (mEr 29) mN))) (fun (p0 : ((Nat × List (UInt8 × List UInt8)) × (Option Int) × Unit)) => ?_) (allOwn_ok rfl)
 obtain ⟨⟨k0_0, l0_0⟩, l0_1, _⟩ := p0
 refine HM_c rU8 fun l1 _ => HM_b 5 fun l2 => HM_0 tabO_nwb (wadd_R r) [] [0, 1, 2] 43 1 Try.func32 fun w bs h => ?_
 obtain ⟨ek0_0, h⟩ := h
 replace ek0_0 : k0_0 = l0_0.length := ek0_0
 subst ek0_0
 have h : wadd n l0_0 l0_1 l1 l2 = some r := h
 unfold wadd at h
 have hT := tabO_nwb
 obtain ⟨r13, g1, h⟩ := bind_some' h
 refine Vgs hT (fT 3 (tHead_ok n r13) fN) [] [] [0, 1, 2, 3, 4] ⟨[(0, kP 0 0), (2, kH 3), (6, kH 4), (7, kE 29 r13.2)], [(1000000, kP 0 0)], [⟨.blk, 58, 1, 2, .c [.wh 1, .s (.er 29 .i64 l0_1)]⟩, ⟨.row, 64, 2, l0_0.length, .g 2 l0_0.length 2 []⟩, ⟨.og, 64, 2, l0_0.length, .d (.pr .u8 (.by 5)) l0_0⟩, ob 5 l2, nb 5 r13.1]⟩ (aP g1 aN) ?_
 refine W_seq ?_
 refine Vrs hT [0, 1, 2, 3, 4] ⟨[(0, kP 0 0), (2, kH 3), (6, kH 4), (7, kE 29 r13.2), (17, kB (!((r13.2).isNone)))], [(1000000, kP 0 0)], [⟨.blk, 58, 1, 2, .c [.wh 1, .s (.er 29 .i64 l0_1)]⟩, ⟨.row, 64, 2, l0_0.length, .g 2 l0_0.length 2 []⟩, ⟨.og, 64, 2, l0_0.length, .d (.pr .u8 (.by 5)) l0_0⟩, ob 5 l2, nb 5 r13.1]⟩ ?_
 refine Vi ((!((r13.2).isNone))) (fun g13 => ?_) (fun g13 => ?_)
 ·replace h := bif_t h g13
  refine W_seq ?_
  obtain ⟨r20, g2, h⟩ := bind_some' h
  replace g2 := mgA l0_0.length g2
  refine Vg hT (fM 2 (wfail_ok n r20) fN) [] [] [0, 5, 6] ⟨[], [(1000000, kP 0 0)], [⟨.blk, 58, 1, 2, .c [.wh 1, .s (.er 29 .i64 r20)]⟩, ⟨.row, 64, 2, l0_0.length, .g 2 l0_0.length 2 []⟩, ⟨.og, 64, 2, l0_0.length, .d (.pr .u8 (.by 5)) l0_0⟩]⟩ (aP g2 aN) ?_
  refine Vc [] [0, 1, 2] (wadd_R (l0_0, r20)) (W_ret ?_)
  exact ⟨.inl rfl, by cases h; rfl⟩
 ·replace h := bif_f h g13
  refine W_skip ?_
  obtain ⟨g3, g4, g5, h⟩ := gd3 h
  refine Vds hT fN 10 [] [(2, false), (6, false), (24, false), (30, false)] [] [0, 1, 2, 3, 4] ⟨[(2, kH 3), (6, kH 4), (8, kP 1 (((((l0_0.length : Nat) : Int) - 1).toNat) * 2))], [(1000000, kP 0 0)], [⟨.blk, 58, 1, 2, .c [.wh 1, .s (.er 29 .i64 l0_1)]⟩, ⟨.row, 64, 2, l0_0.length, .g 2 l0_0.length 2 []⟩, ⟨.og, 64, 2, l0_0.length, .d (.pr .u8 (.by 5)) l0_0⟩, ob 5 l2, nb 5 r13.1]⟩ (aP g3 (aP g4 (aP g5 aN))) ?_
  obtain ⟨p4, g6, h⟩ := bind_some' h
  refine W_pop 1 (.pr .u8 (.by 5)) g6 ⟨[(2, kH 3), (6, kH 4), (8, kP 1 (((((l0_0.length : Nat) : Int) - 1).toNat) * 2))], [(1000000, kP 0 0)], [⟨.blk, 58, 1, 2, .c [.wh 1, .s (.er 29 .i64 l0_1)]⟩, ⟨.row, 64, 2, l0_0.length, .g 5 p4.1.length 2 [.s (.u8 p4.2.1), .wh 6]⟩, ⟨.dead, 64, 2, l0_0.length, .d (.pr .u8 (.by 5)) l0_0⟩, ob 5 l2, nb 5 r13.1, ⟨.og, 64, 2, p4.1.length, .d (.pr .u8 (.by 5)) p4.1⟩, nb 5 p4.2.2]⟩ ?_
  obtain ⟨g7, g8, g9, g10, g11, h⟩ := gd5 h
  obtain ⟨g12, h⟩ := gd_some h
  refine W_weak ?_
  refine Vg hT fN [] [] [0, 1, 5, 8] ⟨[], [(1000000, kP 0 0)], [⟨.blk, 58, 1, 2, .c [.wh 1, .s (.er 29 .i64 l0_1)]⟩, ⟨.row, 64, 2, l0_0.length, .g 2 p4.1.length 2 [.s (.u8 p4.2.1), .wh 3]⟩, ⟨.og, 64, 2, p4.1.length, .d (.pr .u8 (.by 5)) p4.1⟩, nb 5 ((p4.2.2 ++ r13.1) ++ l2)]⟩ (aP g7 (aP g8 (aP g9 (aP g10 (aP g11 (aP g12 aN)))))) ?_
  refine ⟨[.ps 1 [3]], [p4.1.length], [], [], [0, 1, 4], (wadd_R ((p4.1 ++ [(p4.2.1, ((p4.2.2 ++ r13.1) ++ l2))]), l0_1)), (by kernel_rfl), ?_⟩
  exact ⟨.inr rfl, by cases h; rfl⟩
def wPut_R (r : List (UInt8 × List UInt8) × Option Int) : S := ⟨[], [(1000000, kP 0 0)], [⟨.blk, 58, 1, 2, .c [.wh 1, .s (.er 29 .i64 r.2)]⟩, ⟨.row, 64, 2, r.1.length, .g 2 r.1.length 2 []⟩, ⟨.og, 64, 2, r.1.length, .d (.pr .u8 (.by 5)) r.1⟩]⟩
def wPut_ct (n : Nat) (r : List (UInt8 × List UInt8) × Option Int) : CtM := ctM (cmm (mP 58 (mC (mG 64 (.pr .u8 (.by 5))) (mC (mEr 29) mN))) fun y0 => cmc rU8.rd fun l1 => cmb fun l2 => cmR (y0.1.1 = y0.1.2.length ∧ wPut n y0.1.2 y0.2.1 l1 l2 = some r) (.t []) [⟨.blk, 58, 1, 2, .c [.wh 0, .s (.er 29 .i64 r.2)]⟩] [⟨.row, 64, 2, r.1.length, .g 1 r.1.length 2 []⟩, ⟨.og, 64, 2, r.1.length, .d (.pr .u8 (.by 5)) r.1⟩])
theorem wPut_ok (n : Nat) (r : List (UInt8 × List UInt8) × Option Int) : FnMOk Try.prog 14 (wPut_ct n r) := by
 refine fnokM Try.func14 ?_
 refine HM_m (mP 58 (mC (mG 64 (.pr .u8 (.by 5))) (mC (mEr 29) mN))) (fun (p0 : ((Nat × List (UInt8 × List UInt8)) × (Option Int) × Unit)) => ?_) (allOwn_ok rfl)
 obtain ⟨⟨k0_0, l0_0⟩, l0_1, _⟩ := p0
 refine HM_c rU8 fun l1 _ => HM_b 5 fun l2 => HM_0 tabO_nwb (wPut_R r) [] [0, 1, 2] 27 1 Try.func14 fun w bs h => ?_
 obtain ⟨ek0_0, h⟩ := h
 replace ek0_0 : k0_0 = l0_0.length := ek0_0
 subst ek0_0
 have h : wPut n l0_0 l0_1 l1 l2 = some r := h
 unfold wPut at h
 have hT := tabO_nwb
 refine W_block ?_
 refine Vrs hT [0, 1, 2, 3] ⟨[(0, kP 0 0), (1, kU l1), (2, kH 3), (10, kB (!((l0_1).isNone)))], [(1000000, kP 0 0)], [⟨.blk, 58, 1, 2, .c [.wh 1, .s (.er 29 .i64 l0_1)]⟩, ⟨.row, 64, 2, l0_0.length, .g 2 l0_0.length 2 []⟩, ⟨.og, 64, 2, l0_0.length, .d (.pr .u8 (.by 5)) l0_0⟩, ob 5 l2]⟩ ?_
 refine Vi ((!((l0_1).isNone))) (fun g8 => ?_) (fun g8 => ?_)
 ·replace h := bif_t h g8
  refine Vc [] [0, 1, 2] (wPut_R (l0_0, l0_1)) (W_skip ?_)
  exact ⟨.inr rfl, by cases h; rfl⟩
 ·replace h := bif_f h g8
  refine W_seq ?_
  obtain ⟨r18, g1, h⟩ := bind_some' h
  rcases Bool.eq_false_or_eq_true (!r18) with g2 | g2
  ·replace h := bif_t h g2
   refine Vg hT (fT 1 (tvalid_ok n r18) fN) [(3, true)] [] [0, 1, 2, 3] ⟨[(0, kP 0 0), (1, kU l1), (2, kH 3), (16, kB true)], [(1000000, kP 0 0)], [⟨.blk, 58, 1, 2, .c [.wh 1, .s (.er 29 .i64 l0_1)]⟩, ⟨.row, 64, 2, l0_0.length, .g 2 l0_0.length 2 []⟩, ⟨.og, 64, 2, l0_0.length, .d (.pr .u8 (.by 5)) l0_0⟩, ob 5 l2]⟩ (aP g1 (aP g2 aN)) ?_
   refine Vi (true) (fun _ => ?_) (fun hb => by cases hb)
   obtain ⟨r26, g3, h⟩ := bind_some' h
   replace g3 := mgA l0_0.length g3
   refine Vg hT (fM 2 (wfail_ok n r26) fN) [] [] [0, 4, 5] (wPut_R (l0_0, r26)) (aP g3 aN) ?_
   exact ⟨.inr rfl, by cases h; rfl⟩
  ·replace h := bif_f h g2
   obtain ⟨r22, g4, h⟩ := bind_some' h
   refine Vg hT (fT 1 (tvalid_ok n r18) (fT 5 (tisW_ok n r22) fN)) [(3, false)] [] [0, 1, 2, 3] ⟨[(0, kP 0 0), (1, kU l1), (2, kH 3), (16, kB r22)], [(1000000, kP 0 0)], [⟨.blk, 58, 1, 2, .c [.wh 1, .s (.er 29 .i64 l0_1)]⟩, ⟨.row, 64, 2, l0_0.length, .g 2 l0_0.length 2 []⟩, ⟨.og, 64, 2, l0_0.length, .d (.pr .u8 (.by 5)) l0_0⟩, ob 5 l2]⟩ (aP g1 (aP g2 (aP g4 aN))) ?_
   refine Vi (r22) (fun g7 => ?_) (fun g7 => ?_)
   ·replace h := bif_t h g7
    obtain ⟨r26, g5, h⟩ := bind_some' h
    replace g5 := mgA l0_0.length g5
    refine Vg hT (fM 2 (wfail_ok n r26) fN) [] [] [0, 4, 5] (wPut_R (l0_0, r26)) (aP g5 aN) ?_
    exact ⟨.inr rfl, by cases h; rfl⟩
   ·replace h := bif_f h g7
    obtain ⟨r9, g6, h⟩ := bind_some' h
    replace g6 := mgA l0_0.length g6
    refine Vg hT (fM 3 (wadd_ok n r9) fN) [] [] [0, 4, 5] (wPut_R (r9.1, r9.2)) (aP g6 aN) ?_
    exact ⟨.inr rfl, by cases h; rfl⟩
def wOpen_R (r : List (UInt8 × List UInt8) × Option Int) : S := ⟨[], [(1000000, kP 0 0)], [⟨.blk, 58, 1, 2, .c [.wh 1, .s (.er 29 .i64 r.2)]⟩, ⟨.row, 64, 2, r.1.length, .g 2 r.1.length 2 []⟩, ⟨.og, 64, 2, r.1.length, .d (.pr .u8 (.by 5)) r.1⟩]⟩
def wOpen_ct (n : Nat) (r : List (UInt8 × List UInt8) × Option Int) : CtM := ctM (cmm (mP 58 (mC (mG 64 (.pr .u8 (.by 5))) (mC (mEr 29) mN))) fun y0 => cmc rU8.rd fun l1 => cmR (y0.1.1 = y0.1.2.length ∧ wOpen n y0.1.2 y0.2.1 l1 = some r) (.t []) [⟨.blk, 58, 1, 2, .c [.wh 0, .s (.er 29 .i64 r.2)]⟩] [⟨.row, 64, 2, r.1.length, .g 1 r.1.length 2 []⟩, ⟨.og, 64, 2, r.1.length, .d (.pr .u8 (.by 5)) r.1⟩])
theorem wOpen_ok (n : Nat) (r : List (UInt8 × List UInt8) × Option Int) : FnMOk Try.prog 16 (wOpen_ct n r) := by
 refine fnokM Try.func16 ?_
 refine HM_m (mP 58 (mC (mG 64 (.pr .u8 (.by 5))) (mC (mEr 29) mN))) (fun (p0 : ((Nat × List (UInt8 × List UInt8)) × (Option Int) × Unit)) => ?_) (allOwn_ok rfl)
 obtain ⟨⟨k0_0, l0_0⟩, l0_1, _⟩ := p0
 refine HM_c rU8 fun l1 _ => HM_0 tabO_nwb (wOpen_R r) [] [0, 1, 2] 43 1 Try.func16 fun w bs h => ?_
 obtain ⟨ek0_0, h⟩ := h
 replace ek0_0 : k0_0 = l0_0.length := ek0_0
 subst ek0_0
 have h : wOpen n l0_0 l0_1 l1 = some r := h
 unfold wOpen at h
 have hT := tabO_nwb
 refine W_block ?_
 refine Vrs hT [0, 1, 2] ⟨[(0, kP 0 0), (1, kU l1), (15, kB (!((l0_1).isNone)))], [(1000000, kP 0 0)], [⟨.blk, 58, 1, 2, .c [.wh 1, .s (.er 29 .i64 l0_1)]⟩, ⟨.row, 64, 2, l0_0.length, .g 2 l0_0.length 2 []⟩, ⟨.og, 64, 2, l0_0.length, .d (.pr .u8 (.by 5)) l0_0⟩]⟩ ?_
 refine Vi ((!((l0_1).isNone))) (fun g10 => ?_) (fun g10 => ?_)
 ·replace h := bif_t h g10
  refine Vc [] [0, 1, 2] (wOpen_R (l0_0, l0_1)) (W_skip ?_)
  exact ⟨.inr rfl, by cases h; rfl⟩
 ·replace h := bif_f h g10
  refine W_seq ?_
  obtain ⟨r23, g1, h⟩ := bind_some' h
  rcases Bool.eq_false_or_eq_true (!r23) with g2 | g2
  ·replace h := bif_t h g2
   refine Vg hT (fT 1 (tvalid_ok n r23) fN) [(3, true)] [] [0, 1, 2] ⟨[(0, kP 0 0), (1, kU l1), (21, kB true)], [(1000000, kP 0 0)], [⟨.blk, 58, 1, 2, .c [.wh 1, .s (.er 29 .i64 l0_1)]⟩, ⟨.row, 64, 2, l0_0.length, .g 2 l0_0.length 2 []⟩, ⟨.og, 64, 2, l0_0.length, .d (.pr .u8 (.by 5)) l0_0⟩]⟩ (aP g1 (aP g2 aN)) ?_
   refine Vi (true) (fun _ => ?_) (fun hb => by cases hb)
   obtain ⟨r32, g3, h⟩ := bind_some' h
   replace g3 := mgA l0_0.length g3
   refine Vg hT (fM 2 (wfail_ok n r32) fN) [] [] [0, 3, 4] (wOpen_R (l0_0, r32)) (aP g3 aN) ?_
   exact ⟨.inr rfl, by cases h; rfl⟩
  ·replace h := bif_f h g2
   obtain ⟨r27, g4, h⟩ := bind_some' h
   refine Vg hT (fT 1 (tvalid_ok n r23) (fT 5 (tisW_ok n r27) fN)) [(3, false)] [] [0, 1, 2] ⟨[(0, kP 0 0), (1, kU l1), (21, kB (!r27))], [(1000000, kP 0 0)], [⟨.blk, 58, 1, 2, .c [.wh 1, .s (.er 29 .i64 l0_1)]⟩, ⟨.row, 64, 2, l0_0.length, .g 2 l0_0.length 2 []⟩, ⟨.og, 64, 2, l0_0.length, .d (.pr .u8 (.by 5)) l0_0⟩]⟩ (aP g1 (aP g2 (aP g4 aN))) ?_
   refine Vi ((!r27)) (fun g9 => ?_) (fun g9 => ?_)
   ·replace h := bif_t h g9
    obtain ⟨r32, g5, h⟩ := bind_some' h
    replace g5 := mgA l0_0.length g5
    refine Vg hT (fM 2 (wfail_ok n r32) fN) [] [] [0, 3, 4] (wOpen_R (l0_0, r32)) (aP g5 aN) ?_
    exact ⟨.inr rfl, by cases h; rfl⟩
   ·replace h := bif_f h g9
    refine Vrs hT [0, 1, 2] ⟨[(0, kP 0 0), (1, kU l1), (33, kB (decide ((24 : Int) < ((l0_0.length : Nat) : Int))))], [(1000000, kP 0 0)], [⟨.blk, 58, 1, 2, .c [.wh 1, .s (.er 29 .i64 l0_1)]⟩, ⟨.row, 64, 2, l0_0.length, .g 2 l0_0.length 2 []⟩, ⟨.og, 64, 2, l0_0.length, .d (.pr .u8 (.by 5)) l0_0⟩]⟩ ?_
    refine Vi ((decide ((24 : Int) < ((l0_0.length : Nat) : Int)))) (fun g8 => ?_) (fun g8 => ?_)
    ·replace h := bif_t h g8
     obtain ⟨r42, g6, h⟩ := bind_some' h
     replace g6 := mgA l0_0.length g6
     refine Vg hT (fM 2 (wfail_ok n r42) fN) [] [] [0, 3, 4] (wOpen_R (l0_0, r42)) (aP g6 aN) ?_
     exact ⟨.inr rfl, by cases h; rfl⟩
    ·replace h := bif_f h g8
     obtain ⟨g7, h⟩ := gd_some h
     refine W_weak ?_
     refine Vg hT fN [] [] [0, 4, 2] ⟨[], [(1000000, kP 0 0)], [⟨.blk, 58, 1, 2, .c [.wh 1, .s (.er 29 .i64 l0_1)]⟩, ⟨.row, 64, 2, (l0_0.length + 1), .g 2 l0_0.length 2 [.s (.u8 l1), .nils]⟩, ⟨.og, 64, 2, l0_0.length, .d (.pr .u8 (.by 5)) l0_0⟩]⟩ (aP g7 aN) ?_
     refine ⟨[.ps 1 []], [l0_0.length], [], [], [0, 1, 3], (wOpen_R ((l0_0 ++ [(l1, [])]), l0_1)), (by kernel_rfl), ?_⟩
     exact ⟨.inr rfl, by cases h; rfl⟩
def wClose_R (r : List (UInt8 × List UInt8) × Option Int) : S := ⟨[], [(1000000, kP 0 0)], [⟨.blk, 58, 1, 2, .c [.wh 1, .s (.er 29 .i64 r.2)]⟩, ⟨.row, 64, 2, r.1.length, .g 2 r.1.length 2 []⟩, ⟨.og, 64, 2, r.1.length, .d (.pr .u8 (.by 5)) r.1⟩]⟩
def wClose_ct (n : Nat) (r : List (UInt8 × List UInt8) × Option Int) : CtM := ctM (cmm (mP 58 (mC (mG 64 (.pr .u8 (.by 5))) (mC (mEr 29) mN))) fun y0 => cmR (y0.1.1 = y0.1.2.length ∧ wClose n y0.1.2 y0.2.1 = some r) (.t []) [⟨.blk, 58, 1, 2, .c [.wh 0, .s (.er 29 .i64 r.2)]⟩] [⟨.row, 64, 2, r.1.length, .g 1 r.1.length 2 []⟩, ⟨.og, 64, 2, r.1.length, .d (.pr .u8 (.by 5)) r.1⟩])
theorem wClose_ok (n : Nat) (r : List (UInt8 × List UInt8) × Option Int) : FnMOk Try.prog 18 (wClose_ct n r) := by
 refine fnokM Try.func18 ?_
 refine HM_m (mP 58 (mC (mG 64 (.pr .u8 (.by 5))) (mC (mEr 29) mN))) (fun (p0 : ((Nat × List (UInt8 × List UInt8)) × (Option Int) × Unit)) => ?_) (allOwn_ok rfl)
 obtain ⟨⟨k0_0, l0_0⟩, l0_1, _⟩ := p0
 refine HM_0 tabO_nwb (wClose_R r) [] [0, 1, 2] 51 1 Try.func18 fun w bs h => ?_
 obtain ⟨ek0_0, h⟩ := h
 replace ek0_0 : k0_0 = l0_0.length := ek0_0
 subst ek0_0
 have h : wClose n l0_0 l0_1 = some r := h
 unfold wClose at h
 have hT := tabO_nwb
 refine W_block ?_
 refine Vrs hT [0, 1, 2] ⟨[(0, kP 0 0), (35, kB (!((l0_1).isNone)))], [(1000000, kP 0 0)], [⟨.blk, 58, 1, 2, .c [.wh 1, .s (.er 29 .i64 l0_1)]⟩, ⟨.row, 64, 2, l0_0.length, .g 2 l0_0.length 2 []⟩, ⟨.og, 64, 2, l0_0.length, .d (.pr .u8 (.by 5)) l0_0⟩]⟩ ?_
 refine Vi ((!((l0_1).isNone))) (fun g13 => ?_) (fun g13 => ?_)
 ·replace h := bif_t h g13
  refine Vc [] [0, 1, 2] (wClose_R (l0_0, l0_1)) (W_skip ?_)
  exact ⟨.inr rfl, by cases h; rfl⟩
 ·replace h := bif_f h g13
  refine Vrs hT [0, 1, 2] ⟨[(0, kP 0 0), (41, kB (((l0_0.length : Nat) : Int) == 1))], [(1000000, kP 0 0)], [⟨.blk, 58, 1, 2, .c [.wh 1, .s (.er 29 .i64 l0_1)]⟩, ⟨.row, 64, 2, l0_0.length, .g 2 l0_0.length 2 []⟩, ⟨.og, 64, 2, l0_0.length, .d (.pr .u8 (.by 5)) l0_0⟩]⟩ ?_
  refine Vi ((((l0_0.length : Nat) : Int) == 1)) (fun g12 => ?_) (fun g12 => ?_)
  ·replace h := bif_t h g12
   obtain ⟨r50, g1, h⟩ := bind_some' h
   replace g1 := mgA l0_0.length g1
   refine Vg hT (fM 2 (wfail_ok n r50) fN) [] [] [0, 3, 4] (wClose_R (l0_0, r50)) (aP g1 aN) ?_
   exact ⟨.inr rfl, by cases h; rfl⟩
  ·replace h := bif_f h g12
   refine W_seq ?_
   obtain ⟨p0, g2, h⟩ := bind_some' h
   refine W_pop 1 (.pr .u8 (.by 5)) g2 ⟨[(0, kP 0 0), (41, kB (((l0_0.length : Nat) : Int) == 1))], [(1000000, kP 0 0)], [⟨.blk, 58, 1, 2, .c [.wh 1, .s (.er 29 .i64 l0_1)]⟩, ⟨.row, 64, 2, l0_0.length, .g 3 p0.1.length 2 [.s (.u8 p0.2.1), .wh 4]⟩, ⟨.dead, 64, 2, l0_0.length, .d (.pr .u8 (.by 5)) l0_0⟩, ⟨.og, 64, 2, p0.1.length, .d (.pr .u8 (.by 5)) p0.1⟩, nb 5 p0.2.2]⟩ ?_
   obtain ⟨g3, g4, g5, g6, h⟩ := gd4 h
   refine Vd hT fN 13 [] [(0, false), (2, false), (14, false)] [] [0, 1, 3, 4, 5] ⟨[(0, kP 0 0), (2, kP 4 0)], [(1000000, kP 0 0)], [⟨.blk, 58, 1, 2, .c [.wh 1, .s (.er 29 .i64 l0_1)]⟩, ⟨.row, 64, 2, l0_0.length, .g 2 p0.1.length 2 [.s (.u8 p0.2.1), .wh 3]⟩, ⟨.og, 64, 2, p0.1.length, .d (.pr .u8 (.by 5)) p0.1⟩, nb 5 p0.2.2, ⟨.blk, 64, 1, 2, .c [.s (.u8 p0.2.1), .wh 3]⟩]⟩ (aP g3 (aP g4 (aP g5 (aP g6 aN)))) ?_
   obtain ⟨g7, g8, g9, h⟩ := gd3 h
   refine Vds hT fN 13 [] [(0, false), (2, false), (26, false), (27, false)] [] [0, 1, 2, 3, 4] ⟨[(0, kP 0 0), (2, kP 4 0)], [(1000000, kP 0 0)], [⟨.blk, 58, 1, 2, .c [.pre 1 ((((l0_0.length : Nat) : Int) - 1).toNat), .s (.er 29 .i64 l0_1)]⟩, ⟨.row, 64, 2, l0_0.length, .g 2 p0.1.length 2 [.s (.u8 p0.2.1), .wh 3]⟩, ⟨.og, 64, 2, p0.1.length, .d (.pr .u8 (.by 5)) p0.1⟩, nb 5 p0.2.2, ⟨.blk, 64, 1, 2, .c [.s (.u8 p0.2.1), .wh 3]⟩]⟩ (aP g7 (aP g8 (aP g9 aN))) ?_
   obtain ⟨g10, h⟩ := gd_some h
   refine W_cutg 0 0 g10 ⟨[(0, kP 0 0), (2, kP 4 0)], [(1000000, kP 0 0)], [⟨.blk, 58, 1, 2, .c [.wh 5, .s (.er 29 .i64 l0_1)]⟩, ⟨.dead, 64, 2, l0_0.length, .g 2 p0.1.length 2 [.s (.u8 p0.2.1), .wh 3]⟩, ⟨.og, 64, 2, p0.1.length, .d (.pr .u8 (.by 5)) p0.1⟩, nb 5 p0.2.2, ⟨.blk, 64, 1, 2, .c [.s (.u8 p0.2.1), .wh 3]⟩, ⟨.row, 64, 2, p0.1.length, .g 2 p0.1.length 2 []⟩]⟩ ?_
   obtain ⟨r34, g11, h⟩ := bind_some' h
   replace g11 := mgA p0.1.length g11
   refine Vg hT (fM 5 (wadd_ok n r34) fN) [] [] [0, 6, 7] (wClose_R (r34.1, r34.2)) (aP g11 aN) ?_
   exact ⟨.inr rfl, by cases h; rfl⟩
def wBytes_R (r : List (UInt8 × List UInt8) × Option Int × List UInt8 × Option Int) : S := ⟨[(2, kH 3), (3, kE 29 r.2.2.2)], [(1000000, kP 0 0)], [⟨.blk, 58, 1, 2, .c [.wh 1, .s (.er 29 .i64 r.2.1)]⟩, ⟨.row, 64, 2, r.1.length, .g 2 r.1.length 2 []⟩, ⟨.og, 64, 2, r.1.length, .d (.pr .u8 (.by 5)) r.1⟩, nb 5 r.2.2.1]⟩
def wBytes_ct (n : Nat) (r : List (UInt8 × List UInt8) × Option Int × List UInt8 × Option Int) : CtM := ctM (cmm (mP 58 (mC (mG 64 (.pr .u8 (.by 5))) (mC (mEr 29) mN))) fun y0 => cmR (y0.1.1 = y0.1.2.length ∧ wBytes n y0.1.2 y0.2.1 = some r) (.t [.c (.wh 2), .c (.s (.er 29 .i64 r.2.2.2))]) [⟨.blk, 58, 1, 2, .c [.wh 0, .s (.er 29 .i64 r.2.1)]⟩] [⟨.row, 64, 2, r.1.length, .g 1 r.1.length 2 []⟩, ⟨.og, 64, 2, r.1.length, .d (.pr .u8 (.by 5)) r.1⟩, nb 5 r.2.2.1])
theorem wBytes_ok (n : Nat) (r : List (UInt8 × List UInt8) × Option Int × List UInt8 × Option Int) : FnMOk Try.prog 20 (wBytes_ct n r) := by
 refine fnokM Try.func20 ?_
 refine HM_m (mP 58 (mC (mG 64 (.pr .u8 (.by 5))) (mC (mEr 29) mN))) (fun (p0 : ((Nat × List (UInt8 × List UInt8)) × (Option Int) × Unit)) => ?_) (allOwn_ok rfl)
 obtain ⟨⟨k0_0, l0_0⟩, l0_1, _⟩ := p0
 refine HM_0 tabO_nwb (wBytes_R r) [.tmp 2, .tmp 3] [0, 1, 2, 3] 30 1 Try.func20 fun w bs h => ?_
 obtain ⟨ek0_0, h⟩ := h
 replace ek0_0 : k0_0 = l0_0.length := ek0_0
 subst ek0_0
 have h : wBytes n l0_0 l0_1 = some r := h
 unfold wBytes at h
 have hT := tabO_nwb
 refine Vrs hT [0, 1, 2] ⟨[(0, kP 0 0)], [(1000000, kP 0 0)], [⟨.blk, 58, 1, 2, .c [.wh 1, .s (.er 29 .i64 l0_1)]⟩, ⟨.row, 64, 2, l0_0.length, .g 2 l0_0.length 2 []⟩, ⟨.og, 64, 2, l0_0.length, .d (.pr .u8 (.by 5)) l0_0⟩]⟩ ?_
 refine W_seq ?_
 refine W_block ?_
 refine Vrs hT [0, 1, 2] ⟨[(0, kP 0 0), (4, kB (!((l0_1).isNone)))], [(1000000, kP 0 0)], [⟨.blk, 58, 1, 2, .c [.wh 1, .s (.er 29 .i64 l0_1)]⟩, ⟨.row, 64, 2, l0_0.length, .g 2 l0_0.length 2 []⟩, ⟨.og, 64, 2, l0_0.length, .d (.pr .u8 (.by 5)) l0_0⟩]⟩ ?_
 refine Vi ((!((l0_1).isNone))) (fun g8 => ?_) (fun g8 => ?_)
 ·replace h := bif_t h g8
  refine Vds hT fN 5 [] [(2, false), (13, false)] [] [0, 1, 2] ⟨[(2, .c (.nils)), (3, kE 29 l0_1)], [(1000000, kP 0 0)], [⟨.blk, 58, 1, 2, .c [.wh 1, .s (.er 29 .i64 l0_1)]⟩, ⟨.row, 64, 2, l0_0.length, .g 2 l0_0.length 2 []⟩, ⟨.og, 64, 2, l0_0.length, .d (.pr .u8 (.by 5)) l0_0⟩]⟩ aN ?_
  refine Vc [.nil 2 5 1 (.b [])] [0, 1, 2, 3] (wBytes_R (l0_0, l0_1, [], l0_1)) (W_ret ?_)
  exact ⟨.inl rfl, by cases h; rfl⟩
 ·replace h := bif_f h g8
  refine Vrs hT [0, 1, 2] ⟨[(0, kP 0 0), (14, kB (decide ((1 : Int) < ((l0_0.length : Nat) : Int))))], [(1000000, kP 0 0)], [⟨.blk, 58, 1, 2, .c [.wh 1, .s (.er 29 .i64 l0_1)]⟩, ⟨.row, 64, 2, l0_0.length, .g 2 l0_0.length 2 []⟩, ⟨.og, 64, 2, l0_0.length, .d (.pr .u8 (.by 5)) l0_0⟩]⟩ ?_
  refine Vi ((decide ((1 : Int) < ((l0_0.length : Nat) : Int)))) (fun g7 => ?_) (fun g7 => ?_)
  ·replace h := bif_t h g7
   refine Vrs hT [0, 1, 2] ⟨[(2, .c (.nils)), (3, kE 29 (some 17))], [(1000000, kP 0 0)], [⟨.blk, 58, 1, 2, .c [.wh 1, .s (.er 29 .i64 l0_1)]⟩, ⟨.row, 64, 2, l0_0.length, .g 2 l0_0.length 2 []⟩, ⟨.og, 64, 2, l0_0.length, .d (.pr .u8 (.by 5)) l0_0⟩]⟩ ?_
   refine Vc [.nil 2 5 1 (.b [])] [0, 1, 2, 3] (wBytes_R (l0_0, l0_1, [], (some 17))) (W_ret ?_)
   exact ⟨.inl rfl, by cases h; rfl⟩
  ·replace h := bif_f h g7
   refine Vc [] [0, 1, 2] ⟨[(0, kP 0 0)], [(1000000, kP 0 0)], [⟨.blk, 58, 1, 2, .c [.wh 1, .s (.er 29 .i64 l0_1)]⟩, ⟨.row, 64, 2, l0_0.length, .g 2 l0_0.length 2 []⟩, ⟨.og, 64, 2, l0_0.length, .d (.pr .u8 (.by 5)) l0_0⟩]⟩ (W_skip ?_)
   refine W_seq ?_
   obtain ⟨p5, g1, h⟩ := bind_some' h
   refine W_pop 1 (.pr .u8 (.by 5)) g1 ⟨[(0, kP 0 0)], [(1000000, kP 0 0)], [⟨.blk, 58, 1, 2, .c [.wh 1, .s (.er 29 .i64 l0_1)]⟩, ⟨.row, 64, 2, l0_0.length, .g 3 p5.1.length 2 [.s (.u8 p5.2.1), .wh 4]⟩, ⟨.dead, 64, 2, l0_0.length, .d (.pr .u8 (.by 5)) l0_0⟩, ⟨.og, 64, 2, p5.1.length, .d (.pr .u8 (.by 5)) p5.1⟩, nb 5 p5.2.2]⟩ ?_
   obtain ⟨g2, g3, g4, g5, g6, h⟩ := gd5 h
   refine Vg hT (fT 7 cloneb_h fN) [] [] [0, 1, 3, 4, 5] ⟨[(2, kH 4), (3, .c (.s (.v .nilIface)))], [(1000000, kP 0 0)], [⟨.blk, 58, 1, 2, .c [.wh 1, .s (.er 29 .i64 l0_1)]⟩, ⟨.row, 64, 2, l0_0.length, .g 2 p5.1.length 2 [.s (.u8 p5.2.1), .wh 3]⟩, ⟨.og, 64, 2, p5.1.length, .d (.pr .u8 (.by 5)) p5.1⟩, nb 5 p5.2.2, nb 5 p5.2.2]⟩ (aP g2 (aP g3 (aP g4 (aP g5 (aP g6 aN))))) ?_
   refine W_cod [.ps 1 [3]] [p5.1.length] [.er 3 29 .i64] [2, 3] [0, 1, 5, 4] (s' := (wBytes_R ((p5.1 ++ [(p5.2.1, p5.2.2)]), l0_1, p5.2.2, none))) (by kernel_rfl) (W_ret ?_)
   exact ⟨.inl rfl, by cases h; rfl⟩
end Go.Proofs.Ytcdljciflkefaaa
end
section
namespace Go.Proofs.Ytcdljciflkefaaa
open Go.RowKit Go.Ch Go.Sx
def tabL_nwc : List (TypeId × Ti) := [(3, ⟨.int .i64, 1, 8, true, some [.int .i64]⟩),
 (5, ⟨.int .u8, 1, 1, true, some [.int .u8]⟩),
 (23, ⟨.sl 5, 1, 24, false, some [.nils]⟩),
 (25, ⟨.ifc, 1, 16, true, some [.ifc]⟩),
 (29, ⟨.int .i64, 1, 8, true, some [.int .i64]⟩),
 (35, ⟨.ptr 61, 1, 8, true, some [.ptr]⟩),
 (59, ⟨.sl 23, 1, 24, false, some [.nils]⟩),
 (61, ⟨.st [(23, 0), (59, 1), (3, 2)], 3, 56, false, some [.nils, .nils, .int .i64]⟩)]
def tab_nwc : Tab := fun t => (tabL_nwc).lookup t
theorem tabE_nwc : (tabL_nwc.map fun p => tiOf Try.prog p.1) = tabL_nwc.map fun p => some p.2 := by kernel_rfl
theorem tabO_nwc : TabOk Try.prog tab_nwc := tab_of tabE_nwc
def rMark (n : Nat) (a0 : UInt8) : Option (Bool) :=
 gd ((32 : UInt8) ≠ 0) <|
 some ((a0 % (32 : UInt8)) != 31)
def rWhole (n : Nat) (a0 : UInt8) : Option (Bool) :=
 gd ((32 : UInt8) ≠ 0) <|
 gd ((2 : UInt8) ≠ 0) <|
 some (((a0 / (32 : UInt8)) % (2 : UInt8)) == 1)
def rHead (n : Nat) (a0 : UInt8) (a1 : Int) : Option (List UInt8) :=
 bif (decide (a1 < (128 : Int))) then
 some [a0, (UInt8.ofInt a1)]
 else
 bif (decide (a1 < (256 : Int))) then
 some [a0, 129, (UInt8.ofInt a1)]
 else
 gd ((256 : Int) ≠ 0) <|
 gd (okI .i64 (Int.tdiv a1 256)) <|
 gd ((256 : Int) ≠ 0) <|
 some [a0, 130, (UInt8.ofInt (Int.tdiv a1 256)), (UInt8.ofInt (Int.tmod a1 256))]
def rEl (n : Nat) (a0 : UInt8) (a1 : List UInt8) : Option (List UInt8) :=
 (rHead n a0 ((a1.length : Nat) : Int)).bind fun r8 =>
 gd (rmB (r8.length + a1.length) 1) <|
 some (r8 ++ a1)
def rNew (n : Nat) : Option (Unit) :=
 some ()
def radd (n : Nat) (a0_0 : List UInt8) (a0_1 : List (List UInt8)) (a0_2 : Int) (a1 : UInt8) (a2 : List UInt8) : Option (List (List UInt8) × Int) :=
 bif (decide ((65535 : Int) < ((a2.length : Nat) : Int))) then
  some (a0_1, 4)
 else
  gd (okI .i64 (((a0_1.length : Nat) : Int) - 1)) <|
  (lastS a0_1).bind fun p3 =>
  gd (0 ≤ (((a0_1.length : Nat) : Int) - 1)) <|
  gd ((((a0_1.length : Nat) : Int) - 1) < ((a0_1.length : Nat) : Int)) <|
  gd ((((a0_1.length : Nat) : Int) - 1).toNat = p3.1.length * 1 + 0) <|
  (rEl n a1 a2).bind fun r33 =>
  gd (rmB (p3.2.length + r33.length) 1) <|
  gd (0 ≤ (((a0_1.length : Nat) : Int) - 1)) <|
  gd ((((a0_1.length : Nat) : Int) - 1) < ((a0_1.length : Nat) : Int)) <|
  gd ((((a0_1.length : Nat) : Int) - 1).toNat = p3.1.length * 1 + 0) <|
  some ((p3.1 ++ [(p3.2 ++ r33)]), a0_2)
def rPut (n : Nat) (a0_0 : List UInt8) (a0_1 : List (List UInt8)) (a0_2 : Int) (a1 : UInt8) (a2 : List UInt8) : Option (List (List UInt8) × Int) :=
 bif (a0_2 != 0) then
  some (a0_1, a0_2)
 else
  (rMark n a1).bind fun r12 =>
  bif (!r12) then
   some (a0_1, 1)
  else
   (rWhole n a1).bind fun r16 =>
   bif r16 then
    some (a0_1, 1)
   else
    (radd n a0_0 a0_1 a0_2 a1 a2).bind fun r24 =>
    some (r24.1, r24.2)
def rOpen (n : Nat) (a0_0 : List UInt8) (a0_1 : List (List UInt8)) (a0_2 : Int) (a1 : UInt8) : Option (List UInt8 × List (List UInt8) × Int) :=
 bif (a0_2 != 0) then
  some (a0_0, a0_1, a0_2)
 else
  (rMark n a1).bind fun r10 =>
  bif (!r10) then
   some (a0_0, a0_1, 1)
  else
   (rWhole n a1).bind fun r14 =>
   bif (!r14) then
    some (a0_0, a0_1, 1)
   else
    bif (decide ((24 : Int) ≤ ((a0_0.length : Nat) : Int))) then
     some (a0_0, a0_1, 5)
    else
     gd (rmB (a0_0.length + 1) 1) <|
     gd (rmB (a0_1.length + 1) 24) <|
     some ((a0_0 ++ [a1]), (a0_1 ++ [[]]), a0_2)
def rClose (n : Nat) (a0_0 : List UInt8) (a0_1 : List (List UInt8)) (a0_2 : Int) : Option (List UInt8 × List (List UInt8) × Int) :=
 bif (a0_2 != 0) then
  some (a0_0, a0_1, a0_2)
 else
  bif (((a0_0.length : Nat) : Int) == 0) then
   some (a0_0, a0_1, 17)
  else
   gd (okI .i64 (((a0_0.length : Nat) : Int) - 1)) <|
   gd (0 ≤ (((a0_0.length : Nat) : Int) - 1)) <|
   gd ((((a0_0.length : Nat) : Int) - 1) < ((a0_0.length : Nat) : Int)) <|
   (lastS a0_1).bind fun p5 =>
   gd (0 ≤ ((a0_0.length : Nat) : Int)) <|
   gd (((a0_0.length : Nat) : Int) < ((a0_1.length : Nat) : Int)) <|
   gd (((a0_0.length : Nat) : Int).toNat = p5.1.length * 1 + 0) <|
   gd (okI .i64 (((a0_0.length : Nat) : Int) - 1)) <|
   gd (0 ≤ (((a0_0.length : Nat) : Int) - 1)) <|
   gd ((((a0_0.length : Nat) : Int) - 1) ≤ ((a0_0.length : Nat) : Int)) <|
   gd (0 ≤ ((a0_0.length : Nat) : Int)) <|
   gd (((a0_0.length : Nat) : Int) ≤ ((a0_1.length : Nat) : Int)) <|
   gd (((a0_0.length : Nat) : Int).toNat = p5.1.length) <|
   (radd n (a0_0.take ((((a0_0.length : Nat) : Int) - 1).toNat)) p5.1 a0_2 (a0_0.getD ((((a0_0.length : Nat) : Int) - 1).toNat) 0) p5.2).bind fun r57 =>
   some ((a0_0.take ((((a0_0.length : Nat) : Int) - 1).toNat)), r57.1, r57.2)
def rDone (n : Nat) (a0_0 : List UInt8) (a0_1 : List (List UInt8)) (a0_2 : Int) : Option (List (List UInt8) × List UInt8 × Nat × Int) :=
 (lastS a0_1).bind fun p0 =>
 bif (a0_2 != 0) then
  some (p0.1, p0.2, 0, a0_2)
 else
  bif (decide ((0 : Int) < ((a0_0.length : Nat) : Int))) then
   some (p0.1, p0.2, 0, 17)
  else
   gd (0 ≤ (0 : Int)) <|
   gd ((0 : Int) < ((a0_1.length : Nat) : Int)) <|
   gd (0 = p0.1.length * 1 + 0) <|
   some (p0.1, p0.2, p0.2.length, 0)
def code_l1 (n : Nat) (a0 : Option Int) : Nat → Int → Option (Int)
 | 0, _ => none
 | fu_l1 + 1, i3_1 =>
 bif (decide (i3_1 ≤ (17 : Int))) then
 gd (¬((a0 : Option Int) = none ∧ ((some i3_1) : Option Int) = none)) <|
 bif (a0 == (some i3_1)) then
 some i3_1
 else
 gd (okI .i64 (i3_1 + 1)) <|
 (code_l1 n a0 fu_l1) (i3_1 + 1)
 else
 some (-1)
def code (n : Nat) (a0 : Option Int) : Option (Int) :=
 bif ((a0).isNone) then
 some 0
 else
 code_l1 n a0 n 1
def rMark_R (r : Bool) : S := ⟨[(2, kB r)], [], []⟩
def rMark_ct (n : Nat) (r : Bool) : Ct := ctc rU8.rd fun _ l0 => ct0 fun H => ([rMark n l0 = some r], shA H.length (kB r), shH H.length [])
theorem rMark_ok (n : Nat) (r : Bool) : FnOk Try.prog Tr 9 (rMark_ct n r) := by
 refine fnok Try.func9 ?_
 refine HO_c rU8 fun l0 _ => HO_0 tabO_nwc (rMark_R r) [.tmp 2] [] 6 Try.func9 fun w hG h => ?_
 unfold rMark at h
 have hT := tabO_nwc
 refine Vrs hT [] ⟨[(0, kU l0)], [], []⟩ ?_
 obtain ⟨g1, h⟩ := gd_some h
 refine Vgs hT fN [] [] [] ⟨[(2, kB ((l0 % (32 : UInt8)) != 31))], [], []⟩ (aP g1 aN) ?_
 refine Vc [] [] (rMark_R ((l0 % (32 : UInt8)) != 31)) (W_ret ?_)
 exact ⟨.inl rfl, by cases h; rfl⟩
def rWhole_R (r : Bool) : S := ⟨[(2, kB r)], [], []⟩
def rWhole_ct (n : Nat) (r : Bool) : Ct := ctc rU8.rd fun _ l0 => ct0 fun H => ([rWhole n l0 = some r], shA H.length (kB r), shH H.length [])
theorem rWhole_ok (n : Nat) (r : Bool) : FnOk Try.prog Tr 33 (rWhole_ct n r) := by
 refine fnok Try.func33 ?_
 refine HO_c rU8 fun l0 _ => HO_0 tabO_nwc (rWhole_R r) [.tmp 2] [] 7 Try.func33 fun w hG h => ?_
 unfold rWhole at h
 have hT := tabO_nwc
 refine Vrs hT [] ⟨[(0, kU l0)], [], []⟩ ?_
 obtain ⟨g1, g2, h⟩ := gd2 h
 refine Vgs hT fN [] [] [] ⟨[(2, kB (((l0 / (32 : UInt8)) % (2 : UInt8)) == 1))], [], []⟩ (aP g1 (aP g2 aN)) ?_
 refine Vc [] [] (rWhole_R (((l0 / (32 : UInt8)) % (2 : UInt8)) == 1)) (W_ret ?_)
 exact ⟨.inl rfl, by cases h; rfl⟩
def rHead_R (r : List UInt8) : S := ⟨[(4, kH 0)], [], [nb 5 r]⟩
def rHead_ct (n : Nat) (r : List UInt8) : Ct := ctc rU8.rd fun _ l0 => ctc rI.rd fun _ l1 => ct0 fun H => ([rHead n l0 l1 = some r], shA H.length (kH 0), shH H.length [nb 5 r])
theorem rHead_ok (n : Nat) (r : List UInt8) : FnOk Try.prog Tr 10 (rHead_ct n r) := by
 refine fnok Try.func10 ?_
 refine HO_c rU8 fun l0 _ => HO_c rI fun l1 _ => HO_0 tabO_nwc (rHead_R r) [.tmp 4] [0] 25 Try.func10 fun w hG h => ?_
 unfold rHead at h
 have hT := tabO_nwc
 refine Vrs hT [] ⟨[(0, kU l0), (1, kI l1)], [], []⟩ ?_
 refine W_seq ?_
 refine Vrs hT [] ⟨[(0, kU l0), (1, kI l1), (6, kB (decide (l1 < (128 : Int))))], [], []⟩ ?_
 refine Vi ((decide (l1 < (128 : Int)))) (fun g5 => ?_) (fun g5 => ?_)
 ·replace h := bif_t h g5
  refine Vrs hT [0] ⟨[(4, kH 0)], [], [⟨.row, 5, 1, 2, .b [l0, (UInt8.ofInt l1)]⟩]⟩ ?_
  refine Vc [] [0] (rHead_R [l0, (UInt8.ofInt l1)]) (W_ret ?_)
  exact ⟨.inl rfl, by cases h; rfl⟩
 ·replace h := bif_f h g5
  refine W_skip ?_
  refine W_seq ?_
  refine Vrs hT [] ⟨[(0, kU l0), (1, kI l1), (12, kB (decide (l1 < (256 : Int))))], [], []⟩ ?_
  refine Vi ((decide (l1 < (256 : Int)))) (fun g4 => ?_) (fun g4 => ?_)
  ·replace h := bif_t h g4
   refine Vrs hT [0] ⟨[(4, kH 0)], [], [⟨.row, 5, 1, 3, .b [l0, 129, (UInt8.ofInt l1)]⟩]⟩ ?_
   refine Vc [] [0] (rHead_R [l0, 129, (UInt8.ofInt l1)]) (W_ret ?_)
   exact ⟨.inl rfl, by cases h; rfl⟩
  ·replace h := bif_f h g4
   refine W_skip ?_
   obtain ⟨g1, g2, g3, h⟩ := gd3 h
   refine Vgs hT fN [] [] [0] ⟨[(4, kH 0)], [], [⟨.row, 5, 1, 4, .b [l0, 130, (UInt8.ofInt (Int.tdiv l1 256)), (UInt8.ofInt (Int.tmod l1 256))]⟩]⟩ (aP g1 (aP g2 (aP g3 aN))) ?_
   refine Vc [] [0] (rHead_R [l0, 130, (UInt8.ofInt (Int.tdiv l1 256)), (UInt8.ofInt (Int.tmod l1 256))]) (W_ret ?_)
   exact ⟨.inl rfl, by cases h; rfl⟩
def rEl_R (r : List UInt8) : S := ⟨[(4, kH 0)], [], [nb 5 r]⟩
def rEl_ct (n : Nat) (r : List UInt8) : Ct := ctc rU8.rd fun _ l0 => ctc (rB 5).rd fun _ l1 => ct0 fun H => ([rEl n l0 l1 = some r], shA H.length (kH 0), shH H.length [nb 5 r])
theorem rEl_ok (n : Nat) (r : List UInt8) : FnOk Try.prog Tr 24 (rEl_ct n r) := by
 refine fnok Try.func24 ?_
 refine HO_c rU8 fun l0 _ => HO_c (rB 5) fun l1 _ => HO_0 tabO_nwc (rEl_R r) [.tmp 4] [0] 11 Try.func24 fun w hG h => ?_
 unfold rEl at h
 have hT := tabO_nwc
 refine Vrs hT [0] ⟨[(0, kU l0), (1, kH 0)], [], [ob 5 l1]⟩ ?_
 obtain ⟨r8, g1, h⟩ := bind_some' h
 obtain ⟨g2, h⟩ := gd_some h
 refine Vgs hT (fT 3 (rHead_ok n r8) fN) [] [] [2] ⟨[(4, kH 0)], [], [nb 5 (r8 ++ l1)]⟩ (aP g1 (aP g2 aN)) ?_
 refine Vc [] [0] (rEl_R (r8 ++ l1)) (W_ret ?_)
 exact ⟨.inl rfl, by cases h; rfl⟩
def rNew_R (r : Unit) : S := ⟨[(0, kP 0 0)], [], [⟨.blk, 61, 1, 3, .c [.wh 2, .wh 1, .s (.k .i64 0)]⟩, ⟨.row, 23, 1, 1, .c [.nils]⟩, ⟨.row, 5, 1, 0, .b []⟩]⟩
def rNew_ct (n : Nat) (r : Unit) : Ct := ct0 fun H => ([rNew n = some r], shA H.length (kP 0 0), shH H.length [⟨.blk, 61, 1, 3, .c [.wh 1, .wh 2, .s (.k .i64 0)]⟩, ⟨.row, 5, 1, 0, .b []⟩, ⟨.row, 23, 1, 1, .c [.nils]⟩])
theorem rNew_ok (n : Nat) (r : Unit) : FnOk Try.prog Tr 12 (rNew_ct n r) := by
 refine fnok Try.func12 ?_
 refine HO_0 tabO_nwc (rNew_R r) [.tmp 0] [0, 2, 1] 4 Try.func12 fun w hG h => ?_
 unfold rNew at h
 have hT := tabO_nwc
 refine Vrs hT [] ⟨[], [], []⟩ ?_
 refine Vrs hT [1, 0] ⟨[(0, kP 0 0)], [], [⟨.blk, 61, 1, 3, .c [.nils, .wh 1, .s (.k .i64 0)]⟩, ⟨.row, 23, 1, 1, .c [.nils]⟩]⟩ ?_
 refine Vc [.nlc 0 0 5 1 (.b []) none] [0, 1, 2] (rNew_R ()) (W_ret ?_)
 exact ⟨.inl rfl, by cases h; rfl⟩
def radd_R (a0_0 : List UInt8) (r : List (List UInt8) × Int) : S := ⟨[], [(1000000, kP 0 0)], [⟨.blk, 61, 1, 3, .c [.wh 1, .wh 2, .s (.k .i64 r.2)]⟩, nb 5 a0_0, ⟨.row, 23, 1, r.1.length, .g 3 r.1.length 1 []⟩, ⟨.og, 23, 1, r.1.length, .d (.by 5) r.1⟩]⟩
def radd_ct (n : Nat) (r : List (List UInt8) × Int) : CtM := ctM (cmm (mP 61 (mC (mB 5) (mC (mG 23 (.by 5)) (mC mI mN)))) fun y0 => cmc rU8.rd fun l1 => cmb fun l2 => cmR (y0.2.1.1 = y0.2.1.2.length ∧ radd n y0.1 y0.2.1.2 y0.2.2.1 l1 l2 = some r) (.t []) [⟨.blk, 61, 1, 3, .c [.wh 0, .wh 1, .s (.k .i64 r.2)]⟩] [nb 5 y0.1, ⟨.row, 23, 1, r.1.length, .g 2 r.1.length 1 []⟩, ⟨.og, 23, 1, r.1.length, .d (.by 5) r.1⟩])
theorem radd_ok (n : Nat) (r : List (List UInt8) × Int) : FnMOk Try.prog 34 (radd_ct n r) := by
 refine fnokM Try.func34 ?_
 refine HM_m (mP 61 (mC (mB 5) (mC (mG 23 (.by 5)) (mC mI mN)))) (fun (p0 : ((List UInt8) × (Nat × List (List UInt8)) × (Int) × Unit)) => ?_) (allOwn_ok rfl)
 obtain ⟨l0_0, ⟨k0_1, l0_1⟩, l0_2, _⟩ := p0
 refine HM_c rU8 fun l1 _ => HM_b 5 fun l2 => HM_0 tabO_nwc (radd_R l0_0 r) [] [0, 1, 2, 3] 36 1 Try.func34 fun w bs h => ?_
 obtain ⟨ek0_1, h⟩ := h
 replace ek0_1 : k0_1 = l0_1.length := ek0_1
 subst ek0_1
 have h : radd n l0_0 l0_1 l0_2 l1 l2 = some r := h
 unfold radd at h
 have hT := tabO_nwc
 refine W_seq ?_
 refine Vrs hT [0, 1, 2, 3, 4] ⟨[(0, kP 0 0), (1, kU l1), (2, kH 4), (9, kB (decide ((65535 : Int) < ((l2.length : Nat) : Int))))], [(1000000, kP 0 0)], [⟨.blk, 61, 1, 3, .c [.wh 1, .wh 2, .s (.k .i64 l0_2)]⟩, nb 5 l0_0, ⟨.row, 23, 1, l0_1.length, .g 3 l0_1.length 1 []⟩, ⟨.og, 23, 1, l0_1.length, .d (.by 5) l0_1⟩, ob 5 l2]⟩ ?_
 refine Vi ((decide ((65535 : Int) < ((l2.length : Nat) : Int)))) (fun g11 => ?_) (fun g11 => ?_)
 ·replace h := bif_t h g11
  refine Vrs hT [0, 1, 2, 3] ⟨[], [(1000000, kP 0 0)], [⟨.blk, 61, 1, 3, .c [.wh 1, .wh 2, .s (.k .i64 4)]⟩, nb 5 l0_0, ⟨.row, 23, 1, l0_1.length, .g 3 l0_1.length 1 []⟩, ⟨.og, 23, 1, l0_1.length, .d (.by 5) l0_1⟩]⟩ ?_
  refine Vc [] [0, 1, 2, 3] (radd_R l0_0 (l0_1, 4)) (W_ret ?_)
  exact ⟨.inl rfl, by cases h; rfl⟩
 ·replace h := bif_f h g11
  refine W_skip ?_
  obtain ⟨g1, h⟩ := gd_some h
  refine Vgs hT fN [] [] [0, 1, 2, 3, 4] ⟨[(0, kP 0 0), (1, kU l1), (2, kH 4), (6, kI (((l0_1.length : Nat) : Int) - 1))], [(1000000, kP 0 0)], [⟨.blk, 61, 1, 3, .c [.wh 1, .wh 2, .s (.k .i64 l0_2)]⟩, nb 5 l0_0, ⟨.row, 23, 1, l0_1.length, .g 3 l0_1.length 1 []⟩, ⟨.og, 23, 1, l0_1.length, .d (.by 5) l0_1⟩, ob 5 l2]⟩ (aP g1 aN) ?_
  obtain ⟨p3, g2, h⟩ := bind_some' h
  refine W_pop 2 (.by 5) g2 ⟨[(0, kP 0 0), (1, kU l1), (2, kH 4), (6, kI (((l0_1.length : Nat) : Int) - 1))], [(1000000, kP 0 0)], [⟨.blk, 61, 1, 3, .c [.wh 1, .wh 2, .s (.k .i64 l0_2)]⟩, nb 5 l0_0, ⟨.row, 23, 1, l0_1.length, .g 5 p3.1.length 1 [.wh 6]⟩, ⟨.dead, 23, 1, l0_1.length, .d (.by 5) l0_1⟩, ob 5 l2, ⟨.og, 23, 1, p3.1.length, .d (.by 5) p3.1⟩, nb 5 p3.2]⟩ ?_
  obtain ⟨g3, g4, g5, h⟩ := gd3 h
  obtain ⟨r33, g6, h⟩ := bind_some' h
  obtain ⟨g7, g8, g9, g10, h⟩ := gd4 h
  refine W_weak ?_
  refine W_regG hT (fT 14 (rEl_ok n r33) fN) (by kernel_rfl) [] [0, 1, 2, 3, 4, 5, 6, 7, 8, 9, 10, 11, 12, 13, 16] [[0, 1, 2, 3, 4, 5, 6, 7, 8, 9, 10, 11, 12, 13], [0, 1, 2, 3, 4, 5, 6, 7, 8, 9, 10, 11, 12, 13, 14], [0, 1, 2, 3, 4, 5, 6, 7, 8, 9, 10, 11, 12, 13, 14, 15, 16], [0, 1, 2, 3, 4, 5, 6, 7, 8, 9, 10, 11, 12, 13, 14, 15, 16, 17]] [⟨[(0, kP 0 0), (1, kU l1), (2, kH 5), (6, kI (((l0_1.length : Nat) : Int) - 1)), (19, kP 0 0), (20, kP 0 0), (21, kP 0 1), (22, kH 2), (23, kI (((l0_1.length : Nat) : Int) - 1)), (24, kP 0 0), (25, kP 0 0), (26, kP 0 1), (27, kH 2), (28, kI (((l0_1.length : Nat) : Int) - 1)), (29, kP 2 ((((l0_1.length : Nat) : Int) - 1).toNat)), (30, kH 4), (31, kU l1), (32, kH 5)], [(1000000, kP 0 0)], [⟨.blk, 61, 1, 3, .c [.wh 1, .wh 2, .s (.k .i64 l0_2)]⟩, nb 5 l0_0, ⟨.row, 23, 1, l0_1.length, .g 3 p3.1.length 1 [.wh 4]⟩, ⟨.og, 23, 1, p3.1.length, .d (.by 5) p3.1⟩, nb 5 p3.2, ob 5 l2]⟩, ⟨[(0, kP 0 0), (6, kI (((l0_1.length : Nat) : Int) - 1)), (19, kP 0 0), (20, kP 0 0), (21, kP 0 1), (22, kH 2), (23, kI (((l0_1.length : Nat) : Int) - 1)), (24, kP 0 0), (25, kP 0 0), (26, kP 0 1), (27, kH 2), (28, kI (((l0_1.length : Nat) : Int) - 1)), (29, kP 2 ((((l0_1.length : Nat) : Int) - 1).toNat)), (30, kH 4), (33, kH 5)], [(1000000, kP 0 0)], [⟨.blk, 61, 1, 3, .c [.wh 1, .wh 2, .s (.k .i64 l0_2)]⟩, nb 5 l0_0, ⟨.row, 23, 1, l0_1.length, .g 3 p3.1.length 1 [.wh 4]⟩, ⟨.og, 23, 1, p3.1.length, .d (.by 5) p3.1⟩, nb 5 p3.2, nb 5 r33]⟩, ⟨[(0, kP 0 0), (6, kI (((l0_1.length : Nat) : Int) - 1)), (19, kP 0 0), (20, kP 0 0), (21, kP 0 1), (22, kH 2), (23, kI (((l0_1.length : Nat) : Int) - 1)), (34, kH 5), (35, kP 2 ((((l0_1.length : Nat) : Int) - 1).toNat))], [(1000000, kP 0 0)], [⟨.blk, 61, 1, 3, .c [.wh 1, .wh 2, .s (.k .i64 l0_2)]⟩, nb 5 l0_0, ⟨.row, 23, 1, l0_1.length, .g 3 p3.1.length 1 [.wh 4]⟩, ⟨.og, 23, 1, p3.1.length, .d (.by 5) p3.1⟩, ⟨.dead, 5, 1, p3.2.length, .b p3.2⟩, nb 5 (p3.2 ++ r33)]⟩, ⟨[], [(1000000, kP 0 0)], [⟨.blk, 61, 1, 3, .c [.wh 1, .wh 2, .s (.k .i64 l0_2)]⟩, nb 5 l0_0, ⟨.row, 23, 1, l0_1.length, .g 3 p3.1.length 1 [.wh 4]⟩, ⟨.og, 23, 1, p3.1.length, .d (.by 5) p3.1⟩, nb 5 (p3.2 ++ r33)]⟩] [0, 1, 2, 3, 4, 5, 6, 7, 8, 9, 10, 11, 12, 13] [⟨0, 14, 1, [], [], [0, 6, 19, 20, 21, 22, 23, 24, 25, 26, 27, 28, 29, 30, 33], [0, 1, 2, 3, 4, 6]⟩, ⟨1, 15, 2, [16], [], [0, 6, 19, 20, 21, 22, 23, 34, 35], [0, 1, 2, 3, 4, 6]⟩, ⟨2, 17, 3, [], [], [], [0, 1, 2, 3, 5]⟩] [(0, 0), (0, 1), (0, 2), (0, 3), (0, 4), (0, 5), (0, 6), (0, 7), (0, 8), (0, 9), (0, 10), (0, 11), (0, 12), (0, 13), (1, 0), (1, 1), (1, 2), (1, 3), (1, 4), (1, 5), (1, 6), (1, 7), (1, 8), (1, 9), (1, 10), (1, 11), (2, 0), (2, 1), (2, 2), (2, 3), (2, 4), (2, 16)] 3 [0, 1, 2, 6, 19, 20, 21, 22, 23, 24, 25, 26, 27, 28, 29, 30, 31, 32] [0, 1, 2, 5, 6, 4] [] [] [0, 1, 2, 3, 4] (s' := ⟨[], [(1000000, kP 0 0)], [⟨.blk, 61, 1, 3, .c [.wh 1, .wh 2, .s (.k .i64 l0_2)]⟩, nb 5 l0_0, ⟨.row, 23, 1, l0_1.length, .g 3 p3.1.length 1 [.wh 4]⟩, ⟨.og, 23, 1, p3.1.length, .d (.by 5) p3.1⟩, nb 5 (p3.2 ++ r33)]⟩) (by kernel_rfl) ⟨_, (by kernel_rfl), (allP_cons.2 ⟨g3, (allP_cons.2 ⟨g4, (allP_cons.2 ⟨g5, allP_nil⟩)⟩)⟩)⟩ (AllE.cons ⟨_, (by kernel_rfl), (allP_cons.2 ⟨g6, allP_nil⟩)⟩ (AllE.cons ⟨_, (by kernel_rfl), (allP_cons.2 ⟨g7, (allP_cons.2 ⟨g8, (allP_cons.2 ⟨g9, allP_nil⟩)⟩)⟩)⟩ (AllE.cons ⟨_, (by kernel_rfl), (allP_cons.2 ⟨g10, allP_nil⟩)⟩ AllE.nil))) (AllR.cons ⟨_, (by kernel_rfl), allP_nil⟩ (AllR.cons ⟨_, (by kernel_rfl), allP_nil⟩ (AllR.cons ⟨_, (by kernel_rfl), allP_nil⟩ (AllR.cons ⟨_, (by kernel_rfl), allP_nil⟩ (AllR.cons ⟨_, (by kernel_rfl), allP_nil⟩ (AllR.cons ⟨_, (by kernel_rfl), allP_nil⟩ (AllR.cons ⟨_, (by kernel_rfl), allP_nil⟩ (AllR.cons ⟨_, (by kernel_rfl), allP_nil⟩ (AllR.cons ⟨_, (by kernel_rfl), allP_nil⟩ (AllR.cons ⟨_, (by kernel_rfl), allP_nil⟩ (AllR.cons ⟨_, (by kernel_rfl), (allP_cons.2 ⟨g3, (allP_cons.2 ⟨g4, allP_nil⟩)⟩)⟩ (AllR.cons ⟨_, (by kernel_rfl), (allP_cons.2 ⟨g5, allP_nil⟩)⟩ (AllR.cons ⟨_, (by kernel_rfl), allP_nil⟩ (AllR.cons ⟨_, (by kernel_rfl), allP_nil⟩ (AllR.cons ⟨_, (by kernel_rfl), allP_nil⟩ (AllR.cons ⟨_, (by kernel_rfl), allP_nil⟩ (AllR.cons ⟨_, (by kernel_rfl), allP_nil⟩ (AllR.cons ⟨_, (by kernel_rfl), allP_nil⟩ (AllR.cons ⟨_, (by kernel_rfl), allP_nil⟩ (AllR.cons ⟨_, (by kernel_rfl), allP_nil⟩ (AllR.cons ⟨_, (by kernel_rfl), allP_nil⟩ (AllR.cons ⟨_, (by kernel_rfl), allP_nil⟩ (AllR.cons ⟨_, (by kernel_rfl), allP_nil⟩ (AllR.cons ⟨_, (by kernel_rfl), allP_nil⟩ (AllR.cons ⟨_, (by kernel_rfl), (allP_cons.2 ⟨g3, (allP_cons.2 ⟨g4, allP_nil⟩)⟩)⟩ (AllR.cons ⟨_, (by kernel_rfl), (allP_cons.2 ⟨g5, allP_nil⟩)⟩ (AllR.cons ⟨_, (by kernel_rfl), allP_nil⟩ (AllR.cons ⟨_, (by kernel_rfl), allP_nil⟩ (AllR.cons ⟨_, (by kernel_rfl), allP_nil⟩ (AllR.cons ⟨_, (by kernel_rfl), allP_nil⟩ (AllR.cons ⟨_, (by kernel_rfl), allP_nil⟩ (AllR.cons ⟨_, (by kernel_rfl), (allP_cons.2 ⟨g8, (allP_cons.2 ⟨g9, allP_nil⟩)⟩)⟩ AllR.nil)))))))))))))))))))))))))))))))) (by kernel_rfl) ?_
  refine ⟨[.ps 2 [4]], [p3.1.length], [], [], [0, 1, 2, 5], (radd_R l0_0 ((p3.1 ++ [(p3.2 ++ r33)]), l0_2)), (by kernel_rfl), ?_⟩
  exact ⟨.inr rfl, by cases h; rfl⟩
def rPut_R (a0_0 : List UInt8) (r : List (List UInt8) × Int) : S := ⟨[], [(1000000, kP 0 0)], [⟨.blk, 61, 1, 3, .c [.wh 1, .wh 2, .s (.k .i64 r.2)]⟩, nb 5 a0_0, ⟨.row, 23, 1, r.1.length, .g 3 r.1.length 1 []⟩, ⟨.og, 23, 1, r.1.length, .d (.by 5) r.1⟩]⟩
def rPut_ct (n : Nat) (r : List (List UInt8) × Int) : CtM := ctM (cmm (mP 61 (mC (mB 5) (mC (mG 23 (.by 5)) (mC mI mN)))) fun y0 => cmc rU8.rd fun l1 => cmb fun l2 => cmR (y0.2.1.1 = y0.2.1.2.length ∧ rPut n y0.1 y0.2.1.2 y0.2.2.1 l1 l2 = some r) (.t []) [⟨.blk, 61, 1, 3, .c [.wh 0, .wh 1, .s (.k .i64 r.2)]⟩] [nb 5 y0.1, ⟨.row, 23, 1, r.1.length, .g 2 r.1.length 1 []⟩, ⟨.og, 23, 1, r.1.length, .d (.by 5) r.1⟩])
theorem rPut_ok (n : Nat) (r : List (List UInt8) × Int) : FnMOk Try.prog 15 (rPut_ct n r) := by
 refine fnokM Try.func15 ?_
 refine HM_m (mP 61 (mC (mB 5) (mC (mG 23 (.by 5)) (mC mI mN)))) (fun (p0 : ((List UInt8) × (Nat × List (List UInt8)) × (Int) × Unit)) => ?_) (allOwn_ok rfl)
 obtain ⟨l0_0, ⟨k0_1, l0_1⟩, l0_2, _⟩ := p0
 refine HM_c rU8 fun l1 _ => HM_b 5 fun l2 => HM_0 tabO_nwc (rPut_R l0_0 r) [] [0, 1, 2, 3] 25 1 Try.func15 fun w bs h => ?_
 obtain ⟨ek0_1, h⟩ := h
 replace ek0_1 : k0_1 = l0_1.length := ek0_1
 subst ek0_1
 have h : rPut n l0_0 l0_1 l0_2 l1 l2 = some r := h
 unfold rPut at h
 have hT := tabO_nwc
 refine W_seq ?_
 refine Vrs hT [0, 1, 2, 3, 4] ⟨[(0, kP 0 0), (1, kU l1), (2, kH 4), (10, kB (l0_2 != 0))], [(1000000, kP 0 0)], [⟨.blk, 61, 1, 3, .c [.wh 1, .wh 2, .s (.k .i64 l0_2)]⟩, nb 5 l0_0, ⟨.row, 23, 1, l0_1.length, .g 3 l0_1.length 1 []⟩, ⟨.og, 23, 1, l0_1.length, .d (.by 5) l0_1⟩, ob 5 l2]⟩ ?_
 refine Vi ((l0_2 != 0)) (fun g6 => ?_) (fun g6 => ?_)
 ·replace h := bif_t h g6
  refine Vc [] [0, 1, 2, 3] (rPut_R l0_0 (l0_1, l0_2)) (W_ret ?_)
  exact ⟨.inl rfl, by cases h; rfl⟩
 ·replace h := bif_f h g6
  refine Vc [] [0, 1, 2, 3, 4] ⟨[(0, kP 0 0), (1, kU l1), (2, kH 4)], [(1000000, kP 0 0)], [⟨.blk, 61, 1, 3, .c [.wh 1, .wh 2, .s (.k .i64 l0_2)]⟩, nb 5 l0_0, ⟨.row, 23, 1, l0_1.length, .g 3 l0_1.length 1 []⟩, ⟨.og, 23, 1, l0_1.length, .d (.by 5) l0_1⟩, ob 5 l2]⟩ (W_skip ?_)
  refine W_seq ?_
  refine W_seq ?_
  obtain ⟨r12, g1, h⟩ := bind_some' h
  rcases Bool.eq_false_or_eq_true (!r12) with g2 | g2
  ·replace h := bif_t h g2
   refine Vg hT (fT 1 (rMark_ok n r12) fN) [(3, true)] [] [0, 1, 2, 3, 4] ⟨[(0, kP 0 0), (1, kU l1), (2, kH 4), (17, kB true)], [(1000000, kP 0 0)], [⟨.blk, 61, 1, 3, .c [.wh 1, .wh 2, .s (.k .i64 l0_2)]⟩, nb 5 l0_0, ⟨.row, 23, 1, l0_1.length, .g 3 l0_1.length 1 []⟩, ⟨.og, 23, 1, l0_1.length, .d (.by 5) l0_1⟩, ob 5 l2]⟩ (aP g1 (aP g2 aN)) ?_
   refine Vi (true) (fun _ => ?_) (fun hb => by cases hb)
   refine Vrs hT [0, 1, 2, 3] ⟨[], [(1000000, kP 0 0)], [⟨.blk, 61, 1, 3, .c [.wh 1, .wh 2, .s (.k .i64 1)]⟩, nb 5 l0_0, ⟨.row, 23, 1, l0_1.length, .g 3 l0_1.length 1 []⟩, ⟨.og, 23, 1, l0_1.length, .d (.by 5) l0_1⟩]⟩ ?_
   refine Vc [] [0, 1, 2, 3] (rPut_R l0_0 (l0_1, 1)) (W_ret ?_)
   exact ⟨.inl rfl, by cases h; rfl⟩
  ·replace h := bif_f h g2
   obtain ⟨r16, g3, h⟩ := bind_some' h
   refine Vg hT (fT 1 (rMark_ok n r12) (fT 5 (rWhole_ok n r16) fN)) [(3, false)] [] [0, 1, 2, 3, 4] ⟨[(0, kP 0 0), (1, kU l1), (2, kH 4), (17, kB r16)], [(1000000, kP 0 0)], [⟨.blk, 61, 1, 3, .c [.wh 1, .wh 2, .s (.k .i64 l0_2)]⟩, nb 5 l0_0, ⟨.row, 23, 1, l0_1.length, .g 3 l0_1.length 1 []⟩, ⟨.og, 23, 1, l0_1.length, .d (.by 5) l0_1⟩, ob 5 l2]⟩ (aP g1 (aP g2 (aP g3 aN))) ?_
   refine Vi (r16) (fun g5 => ?_) (fun g5 => ?_)
   ·replace h := bif_t h g5
    refine Vrs hT [0, 1, 2, 3] ⟨[], [(1000000, kP 0 0)], [⟨.blk, 61, 1, 3, .c [.wh 1, .wh 2, .s (.k .i64 1)]⟩, nb 5 l0_0, ⟨.row, 23, 1, l0_1.length, .g 3 l0_1.length 1 []⟩, ⟨.og, 23, 1, l0_1.length, .d (.by 5) l0_1⟩]⟩ ?_
    refine Vc [] [0, 1, 2, 3] (rPut_R l0_0 (l0_1, 1)) (W_ret ?_)
    exact ⟨.inl rfl, by cases h; rfl⟩
   ·replace h := bif_f h g5
    refine Vc [] [0, 1, 2, 3, 4] ⟨[(0, kP 0 0), (1, kU l1), (2, kH 4)], [(1000000, kP 0 0)], [⟨.blk, 61, 1, 3, .c [.wh 1, .wh 2, .s (.k .i64 l0_2)]⟩, nb 5 l0_0, ⟨.row, 23, 1, l0_1.length, .g 3 l0_1.length 1 []⟩, ⟨.og, 23, 1, l0_1.length, .d (.by 5) l0_1⟩, ob 5 l2]⟩ (W_skip ?_)
    obtain ⟨r24, g4, h⟩ := bind_some' h
    replace g4 := mgA l0_1.length g4
    refine Vg hT (fM 3 (radd_ok n r24) fN) [] [] [0, 5, 6, 7] (rPut_R l0_0 (r24.1, r24.2)) (aP g4 aN) ?_
    exact ⟨.inr rfl, by cases h; rfl⟩
def rOpen_R (r : List UInt8 × List (List UInt8) × Int) : S := ⟨[], [(1000000, kP 0 0)], [⟨.blk, 61, 1, 3, .c [.wh 1, .wh 2, .s (.k .i64 r.2.2)]⟩, nb 5 r.1, ⟨.row, 23, 1, r.2.1.length, .g 3 r.2.1.length 1 []⟩, ⟨.og, 23, 1, r.2.1.length, .d (.by 5) r.2.1⟩]⟩
def rOpen_ct (n : Nat) (r : List UInt8 × List (List UInt8) × Int) : CtM := ctM (cmm (mP 61 (mC (mB 5) (mC (mG 23 (.by 5)) (mC mI mN)))) fun y0 => cmc rU8.rd fun l1 => cmR (y0.2.1.1 = y0.2.1.2.length ∧ rOpen n y0.1 y0.2.1.2 y0.2.2.1 l1 = some r) (.t []) [⟨.blk, 61, 1, 3, .c [.wh 0, .wh 1, .s (.k .i64 r.2.2)]⟩] [nb 5 r.1, ⟨.row, 23, 1, r.2.1.length, .g 2 r.2.1.length 1 []⟩, ⟨.og, 23, 1, r.2.1.length, .d (.by 5) r.2.1⟩])
theorem rOpen_ok (n : Nat) (r : List UInt8 × List (List UInt8) × Int) : FnMOk Try.prog 17 (rOpen_ct n r) := by
 refine fnokM Try.func17 ?_
 refine HM_m (mP 61 (mC (mB 5) (mC (mG 23 (.by 5)) (mC mI mN)))) (fun (p0 : ((List UInt8) × (Nat × List (List UInt8)) × (Int) × Unit)) => ?_) (allOwn_ok rfl)
 obtain ⟨l0_0, ⟨k0_1, l0_1⟩, l0_2, _⟩ := p0
 refine HM_c rU8 fun l1 _ => HM_0 tabO_nwc (rOpen_R r) [] [0, 1, 2, 3] 48 1 Try.func17 fun w bs h => ?_
 obtain ⟨ek0_1, h⟩ := h
 replace ek0_1 : k0_1 = l0_1.length := ek0_1
 subst ek0_1
 have h : rOpen n l0_0 l0_1 l0_2 l1 = some r := h
 unfold rOpen at h
 have hT := tabO_nwc
 refine W_seq ?_
 refine Vrs hT [0, 1, 2, 3] ⟨[(0, kP 0 0), (1, kU l1), (8, kB (l0_2 != 0))], [(1000000, kP 0 0)], [⟨.blk, 61, 1, 3, .c [.wh 1, .wh 2, .s (.k .i64 l0_2)]⟩, nb 5 l0_0, ⟨.row, 23, 1, l0_1.length, .g 3 l0_1.length 1 []⟩, ⟨.og, 23, 1, l0_1.length, .d (.by 5) l0_1⟩]⟩ ?_
 refine Vi ((l0_2 != 0)) (fun g8 => ?_) (fun g8 => ?_)
 ·replace h := bif_t h g8
  refine Vc [] [0, 1, 2, 3] (rOpen_R (l0_0, l0_1, l0_2)) (W_ret ?_)
  exact ⟨.inl rfl, by cases h; rfl⟩
 ·replace h := bif_f h g8
  refine Vc [] [0, 1, 2, 3] ⟨[(0, kP 0 0), (1, kU l1)], [(1000000, kP 0 0)], [⟨.blk, 61, 1, 3, .c [.wh 1, .wh 2, .s (.k .i64 l0_2)]⟩, nb 5 l0_0, ⟨.row, 23, 1, l0_1.length, .g 3 l0_1.length 1 []⟩, ⟨.og, 23, 1, l0_1.length, .d (.by 5) l0_1⟩]⟩ (W_skip ?_)
  refine W_seq ?_
  refine W_seq ?_
  obtain ⟨r10, g1, h⟩ := bind_some' h
  rcases Bool.eq_false_or_eq_true (!r10) with g2 | g2
  ·replace h := bif_t h g2
   refine Vg hT (fT 1 (rMark_ok n r10) fN) [(3, true)] [] [0, 1, 2, 3] ⟨[(0, kP 0 0), (1, kU l1), (16, kB true)], [(1000000, kP 0 0)], [⟨.blk, 61, 1, 3, .c [.wh 1, .wh 2, .s (.k .i64 l0_2)]⟩, nb 5 l0_0, ⟨.row, 23, 1, l0_1.length, .g 3 l0_1.length 1 []⟩, ⟨.og, 23, 1, l0_1.length, .d (.by 5) l0_1⟩]⟩ (aP g1 (aP g2 aN)) ?_
   refine Vi (true) (fun _ => ?_) (fun hb => by cases hb)
   refine Vrs hT [0, 1, 2, 3] ⟨[], [(1000000, kP 0 0)], [⟨.blk, 61, 1, 3, .c [.wh 1, .wh 2, .s (.k .i64 1)]⟩, nb 5 l0_0, ⟨.row, 23, 1, l0_1.length, .g 3 l0_1.length 1 []⟩, ⟨.og, 23, 1, l0_1.length, .d (.by 5) l0_1⟩]⟩ ?_
   refine Vc [] [0, 1, 2, 3] (rOpen_R (l0_0, l0_1, 1)) (W_ret ?_)
   exact ⟨.inl rfl, by cases h; rfl⟩
  ·replace h := bif_f h g2
   obtain ⟨r14, g3, h⟩ := bind_some' h
   refine Vg hT (fT 1 (rMark_ok n r10) (fT 5 (rWhole_ok n r14) fN)) [(3, false)] [] [0, 1, 2, 3] ⟨[(0, kP 0 0), (1, kU l1), (16, kB (!r14))], [(1000000, kP 0 0)], [⟨.blk, 61, 1, 3, .c [.wh 1, .wh 2, .s (.k .i64 l0_2)]⟩, nb 5 l0_0, ⟨.row, 23, 1, l0_1.length, .g 3 l0_1.length 1 []⟩, ⟨.og, 23, 1, l0_1.length, .d (.by 5) l0_1⟩]⟩ (aP g1 (aP g2 (aP g3 aN))) ?_
   refine Vi ((!r14)) (fun g7 => ?_) (fun g7 => ?_)
   ·replace h := bif_t h g7
    refine Vrs hT [0, 1, 2, 3] ⟨[], [(1000000, kP 0 0)], [⟨.blk, 61, 1, 3, .c [.wh 1, .wh 2, .s (.k .i64 1)]⟩, nb 5 l0_0, ⟨.row, 23, 1, l0_1.length, .g 3 l0_1.length 1 []⟩, ⟨.og, 23, 1, l0_1.length, .d (.by 5) l0_1⟩]⟩ ?_
    refine Vc [] [0, 1, 2, 3] (rOpen_R (l0_0, l0_1, 1)) (W_ret ?_)
    exact ⟨.inl rfl, by cases h; rfl⟩
   ·replace h := bif_f h g7
    refine W_skip ?_
    refine W_seq ?_
    refine Vrs hT [0, 1, 2, 3] ⟨[(0, kP 0 0), (1, kU l1), (25, kB (decide ((24 : Int) ≤ ((l0_0.length : Nat) : Int))))], [(1000000, kP 0 0)], [⟨.blk, 61, 1, 3, .c [.wh 1, .wh 2, .s (.k .i64 l0_2)]⟩, nb 5 l0_0, ⟨.row, 23, 1, l0_1.length, .g 3 l0_1.length 1 []⟩, ⟨.og, 23, 1, l0_1.length, .d (.by 5) l0_1⟩]⟩ ?_
    refine Vi ((decide ((24 : Int) ≤ ((l0_0.length : Nat) : Int)))) (fun g6 => ?_) (fun g6 => ?_)
    ·replace h := bif_t h g6
     refine Vrs hT [0, 1, 2, 3] ⟨[], [(1000000, kP 0 0)], [⟨.blk, 61, 1, 3, .c [.wh 1, .wh 2, .s (.k .i64 5)]⟩, nb 5 l0_0, ⟨.row, 23, 1, l0_1.length, .g 3 l0_1.length 1 []⟩, ⟨.og, 23, 1, l0_1.length, .d (.by 5) l0_1⟩]⟩ ?_
     refine Vc [] [0, 1, 2, 3] (rOpen_R (l0_0, l0_1, 5)) (W_ret ?_)
     exact ⟨.inl rfl, by cases h; rfl⟩
    ·replace h := bif_f h g6
     refine W_skip ?_
     obtain ⟨g4, h⟩ := gd_some h
     refine Vgs hT fN [] [] [0, 5, 2, 3] ⟨[(0, kP 0 0)], [(1000000, kP 0 0)], [⟨.blk, 61, 1, 3, .c [.wh 1, .wh 2, .s (.k .i64 l0_2)]⟩, nb 5 (l0_0 ++ [l1]), ⟨.row, 23, 1, l0_1.length, .g 3 l0_1.length 1 []⟩, ⟨.og, 23, 1, l0_1.length, .d (.by 5) l0_1⟩]⟩ (aP g4 aN) ?_
     obtain ⟨g5, h⟩ := gd_some h
     refine W_weak ?_
     refine Vg hT fN [] [] [0, 1, 5, 3] ⟨[], [(1000000, kP 0 0)], [⟨.blk, 61, 1, 3, .c [.wh 1, .wh 2, .s (.k .i64 l0_2)]⟩, nb 5 (l0_0 ++ [l1]), ⟨.row, 23, 1, (l0_1.length + 1), .g 3 l0_1.length 1 [.nils]⟩, ⟨.og, 23, 1, l0_1.length, .d (.by 5) l0_1⟩]⟩ (aP g5 aN) ?_
     refine ⟨[.ps 2 []], [l0_1.length], [], [], [0, 1, 2, 4], (rOpen_R ((l0_0 ++ [l1]), (l0_1 ++ [[]]), l0_2)), (by kernel_rfl), ?_⟩
     exact ⟨.inr rfl, by cases h; rfl⟩
def rClose_R (r : List UInt8 × List (List UInt8) × Int) : S := ⟨[], [(1000000, kP 0 0)], [⟨.blk, 61, 1, 3, .c [.wh 1, .wh 2, .s (.k .i64 r.2.2)]⟩, nb 5 r.1, ⟨.row, 23, 1, r.2.1.length, .g 3 r.2.1.length 1 []⟩, ⟨.og, 23, 1, r.2.1.length, .d (.by 5) r.2.1⟩]⟩
def rClose_ct (n : Nat) (r : List UInt8 × List (List UInt8) × Int) : CtM := ctM (cmm (mP 61 (mC (mB 5) (mC (mG 23 (.by 5)) (mC mI mN)))) fun y0 => cmR (y0.2.1.1 = y0.2.1.2.length ∧ rClose n y0.1 y0.2.1.2 y0.2.2.1 = some r) (.t []) [⟨.blk, 61, 1, 3, .c [.wh 0, .wh 1, .s (.k .i64 r.2.2)]⟩] [nb 5 r.1, ⟨.row, 23, 1, r.2.1.length, .g 2 r.2.1.length 1 []⟩, ⟨.og, 23, 1, r.2.1.length, .d (.by 5) r.2.1⟩])
theorem rClose_ok (n : Nat) (r : List UInt8 × List (List UInt8) × Int) : FnMOk Try.prog 19 (rClose_ct n r) := by
 refine fnokM Try.func19 ?_
 refine HM_m (mP 61 (mC (mB 5) (mC (mG 23 (.by 5)) (mC mI mN)))) (fun (p0 : ((List UInt8) × (Nat × List (List UInt8)) × (Int) × Unit)) => ?_) (allOwn_ok rfl)
 obtain ⟨l0_0, ⟨k0_1, l0_1⟩, l0_2, _⟩ := p0
 refine HM_0 tabO_nwc (rClose_R r) [] [0, 1, 2, 3] 58 1 Try.func19 fun w bs h => ?_
 obtain ⟨ek0_1, h⟩ := h
 replace ek0_1 : k0_1 = l0_1.length := ek0_1
 subst ek0_1
 have h : rClose n l0_0 l0_1 l0_2 = some r := h
 unfold rClose at h
 have hT := tabO_nwc
 refine W_seq ?_
 refine Vrs hT [0, 1, 2, 3] ⟨[(0, kP 0 0), (9, kB (l0_2 != 0))], [(1000000, kP 0 0)], [⟨.blk, 61, 1, 3, .c [.wh 1, .wh 2, .s (.k .i64 l0_2)]⟩, nb 5 l0_0, ⟨.row, 23, 1, l0_1.length, .g 3 l0_1.length 1 []⟩, ⟨.og, 23, 1, l0_1.length, .d (.by 5) l0_1⟩]⟩ ?_
 refine Vi ((l0_2 != 0)) (fun g16 => ?_) (fun g16 => ?_)
 ·replace h := bif_t h g16
  refine Vc [] [0, 1, 2, 3] (rClose_R (l0_0, l0_1, l0_2)) (W_ret ?_)
  exact ⟨.inl rfl, by cases h; rfl⟩
 ·replace h := bif_f h g16
  refine W_skip ?_
  refine Vrs hT [0, 1, 2, 3] ⟨[(0, kP 0 0), (2, kI ((l0_0.length : Nat) : Int))], [(1000000, kP 0 0)], [⟨.blk, 61, 1, 3, .c [.wh 1, .wh 2, .s (.k .i64 l0_2)]⟩, nb 5 l0_0, ⟨.row, 23, 1, l0_1.length, .g 3 l0_1.length 1 []⟩, ⟨.og, 23, 1, l0_1.length, .d (.by 5) l0_1⟩]⟩ ?_
  refine W_seq ?_
  refine Vrs hT [0, 1, 2, 3] ⟨[(0, kP 0 0), (2, kI ((l0_0.length : Nat) : Int)), (16, kB (((l0_0.length : Nat) : Int) == 0))], [(1000000, kP 0 0)], [⟨.blk, 61, 1, 3, .c [.wh 1, .wh 2, .s (.k .i64 l0_2)]⟩, nb 5 l0_0, ⟨.row, 23, 1, l0_1.length, .g 3 l0_1.length 1 []⟩, ⟨.og, 23, 1, l0_1.length, .d (.by 5) l0_1⟩]⟩ ?_
  refine Vi ((((l0_0.length : Nat) : Int) == 0)) (fun g15 => ?_) (fun g15 => ?_)
  ·replace h := bif_t h g15
   refine Vrs hT [0, 1, 2, 3] ⟨[], [(1000000, kP 0 0)], [⟨.blk, 61, 1, 3, .c [.wh 1, .wh 2, .s (.k .i64 17)]⟩, nb 5 l0_0, ⟨.row, 23, 1, l0_1.length, .g 3 l0_1.length 1 []⟩, ⟨.og, 23, 1, l0_1.length, .d (.by 5) l0_1⟩]⟩ ?_
   refine Vc [] [0, 1, 2, 3] (rClose_R (l0_0, l0_1, 17)) (W_ret ?_)
   exact ⟨.inl rfl, by cases h; rfl⟩
  ·replace h := bif_f h g15
   refine W_skip ?_
   obtain ⟨g1, g2, g3, h⟩ := gd3 h
   refine Vgs hT fN [] [] [0, 1, 2, 3] ⟨[(0, kP 0 0), (2, kI ((l0_0.length : Nat) : Int)), (3, kU (l0_0.getD ((((l0_0.length : Nat) : Int) - 1).toNat) 0))], [(1000000, kP 0 0)], [⟨.blk, 61, 1, 3, .c [.wh 1, .wh 2, .s (.k .i64 l0_2)]⟩, nb 5 l0_0, ⟨.row, 23, 1, l0_1.length, .g 3 l0_1.length 1 []⟩, ⟨.og, 23, 1, l0_1.length, .d (.by 5) l0_1⟩]⟩ (aP g1 (aP g2 (aP g3 aN))) ?_
   refine W_seq ?_
   obtain ⟨p5, g4, h⟩ := bind_some' h
   refine W_pop 2 (.by 5) g4 ⟨[(0, kP 0 0), (2, kI ((l0_0.length : Nat) : Int)), (3, kU (l0_0.getD ((((l0_0.length : Nat) : Int) - 1).toNat) 0))], [(1000000, kP 0 0)], [⟨.blk, 61, 1, 3, .c [.wh 1, .wh 2, .s (.k .i64 l0_2)]⟩, nb 5 l0_0, ⟨.row, 23, 1, l0_1.length, .g 4 p5.1.length 1 [.wh 5]⟩, ⟨.dead, 23, 1, l0_1.length, .d (.by 5) l0_1⟩, ⟨.og, 23, 1, p5.1.length, .d (.by 5) p5.1⟩, nb 5 p5.2]⟩ ?_
   obtain ⟨g5, g6, g7, h⟩ := gd3 h
   refine Vg hT fN [] [] [0, 1, 2, 4, 5] ⟨[(0, kP 0 0), (2, kI ((l0_0.length : Nat) : Int)), (3, kU (l0_0.getD ((((l0_0.length : Nat) : Int) - 1).toNat) 0)), (4, kH 4)], [(1000000, kP 0 0)], [⟨.blk, 61, 1, 3, .c [.wh 1, .wh 2, .s (.k .i64 l0_2)]⟩, nb 5 l0_0, ⟨.row, 23, 1, l0_1.length, .g 3 p5.1.length 1 [.wh 4]⟩, ⟨.og, 23, 1, p5.1.length, .d (.by 5) p5.1⟩, nb 5 p5.2]⟩ (aP g5 (aP g6 (aP g7 aN))) ?_
   obtain ⟨g8, g9, g10, h⟩ := gd3 h
   refine Vgs hT fN [] [.cut 0 0] [0, 5, 2, 3, 4] ⟨[(0, kP 0 0), (2, kI ((l0_0.length : Nat) : Int)), (3, kU (l0_0.getD ((((l0_0.length : Nat) : Int) - 1).toNat) 0)), (4, kH 4)], [(1000000, kP 0 0)], [⟨.blk, 61, 1, 3, .c [.wh 1, .wh 2, .s (.k .i64 l0_2)]⟩, nb 5 (l0_0.take ((((l0_0.length : Nat) : Int) - 1).toNat)), ⟨.row, 23, 1, l0_1.length, .g 3 p5.1.length 1 [.wh 4]⟩, ⟨.og, 23, 1, p5.1.length, .d (.by 5) p5.1⟩, nb 5 p5.2]⟩ (aP g8 (aP g9 (aP g10 aN))) ?_
   obtain ⟨g11, g12, h⟩ := gd2 h
   refine Vgs hT fN [] [] [0, 1, 2, 3, 4] ⟨[(0, kP 0 0), (3, kU (l0_0.getD ((((l0_0.length : Nat) : Int) - 1).toNat) 0)), (4, kH 4)], [(1000000, kP 0 0)], [⟨.blk, 61, 1, 3, .c [.wh 1, .pre 2 (((l0_0.length : Nat) : Int).toNat), .s (.k .i64 l0_2)]⟩, nb 5 (l0_0.take ((((l0_0.length : Nat) : Int) - 1).toNat)), ⟨.row, 23, 1, l0_1.length, .g 3 p5.1.length 1 [.wh 4]⟩, ⟨.og, 23, 1, p5.1.length, .d (.by 5) p5.1⟩, nb 5 p5.2]⟩ (aP g11 (aP g12 aN)) ?_
   obtain ⟨g13, h⟩ := gd_some h
   refine W_cutg 0 1 g13 ⟨[(0, kP 0 0), (3, kU (l0_0.getD ((((l0_0.length : Nat) : Int) - 1).toNat) 0)), (4, kH 4)], [(1000000, kP 0 0)], [⟨.blk, 61, 1, 3, .c [.wh 1, .wh 5, .s (.k .i64 l0_2)]⟩, nb 5 (l0_0.take ((((l0_0.length : Nat) : Int) - 1).toNat)), ⟨.dead, 23, 1, l0_1.length, .g 3 p5.1.length 1 [.wh 4]⟩, ⟨.og, 23, 1, p5.1.length, .d (.by 5) p5.1⟩, nb 5 p5.2, ⟨.row, 23, 1, p5.1.length, .g 3 p5.1.length 1 []⟩]⟩ ?_
   obtain ⟨r57, g14, h⟩ := bind_some' h
   replace g14 := mgA p5.1.length g14
   refine Vg hT (fM 3 (radd_ok n r57) fN) [] [] [0, 6, 7, 8] (rClose_R ((l0_0.take ((((l0_0.length : Nat) : Int) - 1).toNat)), r57.1, r57.2)) (aP g14 aN) ?_
   exact ⟨.inr rfl, by cases h; rfl⟩
def rDone_R (a0_0 : List UInt8) (a0_1 : List (List UInt8)) (a0_2 : Int) (r : List (List UInt8) × List UInt8 × Nat × Int) : S := ⟨[(2, .c (.sl 4 0 r.2.2.1)), (3, kI r.2.2.2)], [(1000000, kP 0 0)], [⟨.blk, 61, 1, 3, .c [.wh 1, .wh 2, .s (.k .i64 a0_2)]⟩, nb 5 a0_0, ⟨.row, 23, 1, a0_1.length, .g 3 r.1.length 1 [.wh 4]⟩, ⟨.og, 23, 1, r.1.length, .d (.by 5) r.1⟩, nb 5 r.2.1]⟩
def rDone_ct (n : Nat) (r : List (List UInt8) × List UInt8 × Nat × Int) : CtM := ctM (cmm (mP 61 (mC (mB 5) (mC (mG 23 (.by 5)) (mC mI mN)))) fun y0 => cmR (y0.2.1.1 = y0.2.1.2.length ∧ rDone n y0.1 y0.2.1.2 y0.2.2.1 = some r) (.t [.c (.sl 3 0 r.2.2.1), .c (.s (.k .i64 r.2.2.2))]) [⟨.blk, 61, 1, 3, .c [.wh 0, .wh 1, .s (.k .i64 y0.2.2.1)]⟩] [nb 5 y0.1, ⟨.row, 23, 1, y0.2.1.2.length, .g 2 r.1.length 1 [.wh 3]⟩, ⟨.og, 23, 1, r.1.length, .d (.by 5) r.1⟩, nb 5 r.2.1])
theorem rDone_ok (n : Nat) (r : List (List UInt8) × List UInt8 × Nat × Int) : FnMOk Try.prog 21 (rDone_ct n r) := by
 refine fnokM Try.func21 ?_
 refine HM_m (mP 61 (mC (mB 5) (mC (mG 23 (.by 5)) (mC mI mN)))) (fun (p0 : ((List UInt8) × (Nat × List (List UInt8)) × (Int) × Unit)) => ?_) (allOwn_ok rfl)
 obtain ⟨l0_0, ⟨k0_1, l0_1⟩, l0_2, _⟩ := p0
 refine HM_0 tabO_nwc (rDone_R l0_0 l0_1 l0_2 r) [.tmp 2, .tmp 3] [0, 1, 2, 3, 4] 25 1 Try.func21 fun w bs h => ?_
 obtain ⟨ek0_1, h⟩ := h
 replace ek0_1 : k0_1 = l0_1.length := ek0_1
 subst ek0_1
 have h : rDone n l0_0 l0_1 l0_2 = some r := h
 unfold rDone at h
 have hT := tabO_nwc
 refine W_seq ?_
 obtain ⟨p0, g1, h⟩ := bind_some' h
 refine W_pop 2 (.by 5) g1 ⟨[(0, kP 0 0)], [(1000000, kP 0 0)], [⟨.blk, 61, 1, 3, .c [.wh 1, .wh 2, .s (.k .i64 l0_2)]⟩, nb 5 l0_0, ⟨.row, 23, 1, l0_1.length, .g 4 p0.1.length 1 [.wh 5]⟩, ⟨.dead, 23, 1, l0_1.length, .d (.by 5) l0_1⟩, ⟨.og, 23, 1, p0.1.length, .d (.by 5) p0.1⟩, nb 5 p0.2]⟩ ?_
 refine Vr hT [0, 1, 2, 4, 5] ⟨[(0, kP 0 0)], [(1000000, kP 0 0)], [⟨.blk, 61, 1, 3, .c [.wh 1, .wh 2, .s (.k .i64 l0_2)]⟩, nb 5 l0_0, ⟨.row, 23, 1, l0_1.length, .g 3 p0.1.length 1 [.wh 4]⟩, ⟨.og, 23, 1, p0.1.length, .d (.by 5) p0.1⟩, nb 5 p0.2]⟩ ?_
 refine W_seq ?_
 refine Vrs hT [0, 1, 2, 3, 4] ⟨[(0, kP 0 0), (8, kB (l0_2 != 0))], [(1000000, kP 0 0)], [⟨.blk, 61, 1, 3, .c [.wh 1, .wh 2, .s (.k .i64 l0_2)]⟩, nb 5 l0_0, ⟨.row, 23, 1, l0_1.length, .g 3 p0.1.length 1 [.wh 4]⟩, ⟨.og, 23, 1, p0.1.length, .d (.by 5) p0.1⟩, nb 5 p0.2]⟩ ?_
 refine Vi ((l0_2 != 0)) (fun g6 => ?_) (fun g6 => ?_)
 ·replace h := bif_t h g6
  refine Vds hT fN 5 [] [(2, false), (12, false)] [] [0, 1, 2, 3, 4] ⟨[(2, .c (.nils)), (3, kI l0_2)], [(1000000, kP 0 0)], [⟨.blk, 61, 1, 3, .c [.wh 1, .wh 2, .s (.k .i64 l0_2)]⟩, nb 5 l0_0, ⟨.row, 23, 1, l0_1.length, .g 3 p0.1.length 1 [.wh 4]⟩, ⟨.og, 23, 1, p0.1.length, .d (.by 5) p0.1⟩, nb 5 p0.2]⟩ aN ?_
  refine Vc [.ns 2 4] [0, 1, 2, 3, 4] (rDone_R l0_0 l0_1 l0_2 (p0.1, p0.2, 0, l0_2)) (W_ret ?_)
  exact ⟨.inl rfl, by cases h; rfl⟩
 ·replace h := bif_f h g6
  refine W_skip ?_
  refine W_seq ?_
  refine Vrs hT [0, 1, 2, 3, 4] ⟨[(0, kP 0 0), (18, kB (decide ((0 : Int) < ((l0_0.length : Nat) : Int))))], [(1000000, kP 0 0)], [⟨.blk, 61, 1, 3, .c [.wh 1, .wh 2, .s (.k .i64 l0_2)]⟩, nb 5 l0_0, ⟨.row, 23, 1, l0_1.length, .g 3 p0.1.length 1 [.wh 4]⟩, ⟨.og, 23, 1, p0.1.length, .d (.by 5) p0.1⟩, nb 5 p0.2]⟩ ?_
  refine Vi ((decide ((0 : Int) < ((l0_0.length : Nat) : Int)))) (fun g5 => ?_) (fun g5 => ?_)
  ·replace h := bif_t h g5
   refine Vrs hT [0, 1, 2, 3, 4] ⟨[(2, .c (.nils)), (3, kI 17)], [(1000000, kP 0 0)], [⟨.blk, 61, 1, 3, .c [.wh 1, .wh 2, .s (.k .i64 l0_2)]⟩, nb 5 l0_0, ⟨.row, 23, 1, l0_1.length, .g 3 p0.1.length 1 [.wh 4]⟩, ⟨.og, 23, 1, p0.1.length, .d (.by 5) p0.1⟩, nb 5 p0.2]⟩ ?_
   refine Vc [.ns 2 4] [0, 1, 2, 3, 4] (rDone_R l0_0 l0_1 l0_2 (p0.1, p0.2, 0, 17)) (W_ret ?_)
   exact ⟨.inl rfl, by cases h; rfl⟩
  ·replace h := bif_f h g5
   refine W_skip ?_
   obtain ⟨g2, g3, g4, h⟩ := gd3 h
   refine Vgs hT fN [] [] [0, 1, 2, 3, 4] ⟨[(2, kH 4), (3, kI 0)], [(1000000, kP 0 0)], [⟨.blk, 61, 1, 3, .c [.wh 1, .wh 2, .s (.k .i64 l0_2)]⟩, nb 5 l0_0, ⟨.row, 23, 1, l0_1.length, .g 3 p0.1.length 1 [.wh 4]⟩, ⟨.og, 23, 1, p0.1.length, .d (.by 5) p0.1⟩, nb 5 p0.2]⟩ (aP g2 (aP g3 (aP g4 aN))) ?_
   refine Vc [.sb 2] [0, 1, 2, 3, 4] (rDone_R l0_0 l0_1 l0_2 (p0.1, p0.2, p0.2.length, 0)) (W_ret ?_)
   exact ⟨.inl rfl, by cases h; rfl⟩
def code_l1_E (a0 : Option Int) (i3_1 : Int) : S := ⟨[(0, kE 29 a0), (3, kI i3_1)], [], []⟩
abbrev code_l1_P (n : Nat) (a0 : Option Int) (r : Int) (fu : Nat) : S → Prop := fun s => ∃ (i3_1 : Int), s = code_l1_E a0 i3_1 ∧ code_l1 n a0 fu i3_1 = some r
def code_R (r : Int) : S := ⟨[(2, kI r)], [], []⟩
def code_ct (n : Nat) (r : Int) : Ct := ctc (rEr 29).rd fun _ l0 => ct0 fun H => ([code n l0 = some r], shA H.length (kI r), shH H.length [])
theorem code_ok (n : Nat) (r : Int) : FnOk Try.prog Tr 22 (code_ct n r) := by
 refine fnok Try.func22 ?_
 refine HO_c (rEr 29) fun l0 _ => HO_0 tabO_nwc (code_R r) [.tmp 2] [] 15 Try.func22 fun w hG h => ?_
 unfold code at h
 have hT := tabO_nwc
 refine Vrs hT [] ⟨[(0, kE 29 l0)], [], []⟩ ?_
 refine W_seq ?_
 refine Vrs hT [] ⟨[(0, kE 29 l0), (5, kB ((l0).isNone))], [], []⟩ ?_
 refine Vi ((l0).isNone) (fun g5 => ?_) (fun g5 => ?_)
 ·replace h := bif_t h g5
  refine Vrs hT [] ⟨[(2, kI 0)], [], []⟩ ?_
  refine Vc [] [] (code_R 0) (W_ret ?_)
  exact ⟨.inl rfl, by cases h; rfl⟩
 ·replace h := bif_f h g5
  refine W_skip ?_
  refine W_seq ?_
  refine Vrs hT [] ⟨[(0, kE 29 l0), (3, kI 1)], [], []⟩ ?_
  refine W_block ?_
  refine Vc [] [] (code_l1_E l0 1) (W_lp ((code_l1_P n l0 r)) n ⟨_, rfl, h⟩ ?_)
  rintro fu_l1 _ ⟨i3_1, rfl, h⟩
  cases fu_l1 with
  | zero => cases h
  | succ fu_l1 =>
   refine ⟨fu_l1, rfl, ?_⟩
   rw [code_l1] at h
   refine W_seq ?_
   refine Vrs hT [] ⟨[(0, kE 29 l0), (3, kI i3_1), (7, kB (decide (i3_1 ≤ (17 : Int))))], [], []⟩ ?_
   refine Vi ((decide (i3_1 ≤ (17 : Int)))) (fun g4 => ?_) (fun g4 => ?_)
   ·replace h := bif_t h g4
    refine W_skip ?_
    refine W_seq ?_
    refine W_block ?_
    obtain ⟨g1, h⟩ := gd_some h
    refine Vgs hT fN [] [] [] ⟨[(0, kE 29 l0), (3, kI i3_1), (13, kB (l0 == (some i3_1)))], [], []⟩ (aP g1 aN) ?_
    refine Vi ((l0 == (some i3_1))) (fun g3 => ?_) (fun g3 => ?_)
    ·replace h := bif_t h g3
     refine Vrs hT [] ⟨[(2, kI i3_1)], [], []⟩ ?_
     refine Vc [] [] (code_R i3_1) (W_ret ?_)
     exact ⟨.inl rfl, by cases h; rfl⟩
    ·replace h := bif_f h g3
     refine W_skip ?_
     obtain ⟨g2, h⟩ := gd_some h
     refine Vg hT fN [] [] [] (code_l1_E l0 (i3_1 + 1)) (aP g2 aN) ?_
     exact ⟨_, rfl, h⟩
   ·replace h := bif_f h g4
    refine Vc [] [] ⟨[], [], []⟩ (W_exit ?_)
    refine Vrs hT [] ⟨[(2, kI (-1))], [], []⟩ ?_
    refine Vc [] [] (code_R (-1)) (W_ret ?_)
    exact ⟨.inl rfl, by cases h; rfl⟩
end Go.Proofs.Ytcdljciflkefaaa
end
section
namespace Go.Proofs.Ytcdljciflkefaaa
open Go.RowKit Go.Ch Go.Sx
def tabL_twa : List (TypeId × Ti) := [(3, ⟨.int .i64, 1, 8, true, some [.int .i64]⟩),
 (5, ⟨.int .u8, 1, 1, true, some [.int .u8]⟩),
 (9, ⟨.str, 1, 16, true, some [.str]⟩),
 (23, ⟨.sl 5, 1, 24, false, some [.nils]⟩),
 (25, ⟨.ifc, 1, 16, true, some [.ifc]⟩),
 (29, ⟨.int .i64, 1, 8, true, some [.int .i64]⟩),
 (32, ⟨.sl 38, 1, 24, false, some [.nils]⟩),
 (33, ⟨.ptr 58, 1, 8, true, some [.ptr]⟩),
 (38, ⟨.st [(3, 0), (5, 1), (23, 2)], 3, 40, false, some [.int .i64, .int .u8, .nils]⟩),
 (47, ⟨.ptr 68, 1, 8, true, some [.ptr]⟩),
 (64, ⟨.st [(5, 0), (23, 1)], 2, 32, false, some [.int .u8, .nils]⟩)]
def tab_twa : Tab := fun t => (tabL_twa).lookup t
theorem tabE_twa : (tabL_twa.map fun p => tiOf Try.prog p.1) = tabL_twa.map fun p => some p.2 := by kernel_rfl
theorem tabO_twa : TabOk Try.prog tab_twa := tab_of tabE_twa
def tup (n : Nat) : Option (Bool) :=
 (wNew n).bind fun r7 =>
 (tNewR n [2, 129, 1, 5]).bind fun r9 =>
 (wOpen1 n 0 [] 48).bind fun r17 =>
 (wPut2 n 0 [] 48 [] 2 [5]).bind fun r20 =>
 (wClose2 n 0 [] 48 r20).bind fun r22 =>
 (wBytes1 n 0 r22).bind fun r25 =>
 (tTake n r9.1 0 r9.2 2).bind fun r30 =>
 bif (r22 == ([48, 3, 2, 1, 5] : List UInt8)) then
  gd (¬((r30.2.2 : Option Int) = none ∧ ((some 2) : Option Int) = none)) <|
  some (r30.2.2 == (some 2))
 else
  some false
def tpick_j1 (n : Nat) (a1 : Int) (i0_1 : Int) : Option (Int) :=
 gd (a1 ≠ 0) <|
 some (Int.tmod i0_1 a1)
def tpick (n : Nat) (a0 : Int) (a1 : Int) : Option (Int) :=
 bif (decide (a0 < (0 : Int))) then
 gd (okI .i64 (a0 + 1)) <|
 gd (okI .i64 (-(a0 + 1))) <|
 tpick_j1 n a1 (-(a0 + 1))
 else
 tpick_j1 n a1 a0
def lWrites_j1 (n : Nat) (a0 : List (Int × (UInt8 × List UInt8))) (r12 : Bool) (i6_2 : Int) (k_l1 : (List (UInt8 × List UInt8)) → (Option Int) → (List UInt8) → (List (List UInt8)) → Int → Int → Option (Bool)) (d4_0_28 : List (UInt8 × List UInt8)) (e4_1_28 : Option Int) (l5_0_28 : List UInt8) (d5_1_28 : List (List UInt8)) (i5_2_28 : Int) : Option (Bool) :=
 gd (okI .i64 (i6_2 + 1)) <|
 k_l1 d4_0_28 e4_1_28 l5_0_28 d5_1_28 i5_2_28 (i6_2 + 1)
def lWrites_j2 (n : Nat) (a0 : List (Int × (UInt8 × List UInt8))) (r12 : Bool) (i6_2 : Int) (k_l1 : (List (UInt8 × List UInt8)) → (Option Int) → (List UInt8) → (List (List UInt8)) → Int → Int → Option (Bool)) (d4_0_29 : List (UInt8 × List UInt8)) (e4_1_29 : Option Int) (l5_0_29 : List UInt8) (d5_1_29 : List (List UInt8)) (i5_2_29 : Int) : Option (Bool) :=
 (wBytes n d4_0_29 e4_1_29).bind fun r68_17 =>
 (rDone n l5_0_29 d5_1_29 i5_2_29).bind fun r73_17 =>
 (code n r68_17.2.2.2).bind fun r77_17 =>
 bif (r77_17 != r73_17.2.2.2) then
  some false
 else
  bif (r68_17.2.2.1 != ((r73_17.2.1.drop 0).take r73_17.2.2.1)) then
   some false
  else
   lWrites_j1 n a0 r12 i6_2 k_l1 r68_17.1 r68_17.2.1 l5_0_29 (r73_17.1 ++ [r73_17.2.1]) i5_2_29
def lWrites_l1 (n : Nat) (a0 : List (Int × (UInt8 × List UInt8))) (r12 : Bool) : Nat → List (UInt8 × List UInt8) → Option Int → List UInt8 → List (List UInt8) → Int → Int → Option (Bool)
 | 0, _, _, _, _, _, _ => none
 | fu_l1 + 1, d4_0_23, e4_1_23, l5_0_23, d5_1_23, i5_2_23, i6_2 =>
  bif (decide (i6_2 < ((a0.length : Nat) : Int))) then
   bif (decide (i6_2 < (80 : Int))) then
    gd (0 ≤ i6_2) <|
    gd (i6_2 < ((a0.length : Nat) : Int)) <|
    bif (decide ((300 : Int) < ((((a0.getD i6_2.toNat (0, (0, []))).2.2).length : Nat) : Int))) then
     lWrites_j1 n a0 r12 i6_2 (lWrites_l1 n a0 r12 fu_l1) d4_0_23 e4_1_23 l5_0_23 d5_1_23 i5_2_23
    else
     (tpick n ((a0.getD i6_2.toNat (0, (0, []))).1) 3).bind fun r37_3 =>
     bif (r37_3 == 0) then
      (wPut n d4_0_23 e4_1_23 ((a0.getD i6_2.toNat (0, (0, []))).2.1) ((a0.getD i6_2.toNat (0, (0, []))).2.2)).bind fun r49_3 =>
      (rPut n l5_0_23 d5_1_23 i5_2_23 ((a0.getD i6_2.toNat (0, (0, []))).2.1) ((a0.getD i6_2.toNat (0, (0, []))).2.2)).bind fun r55_3 =>
      lWrites_j2 n a0 r12 i6_2 (lWrites_l1 n a0 r12 fu_l1) r49_3.1 r49_3.2 l5_0_23 r55_3.1 r55_3.2
     else
      bif (r37_3 == 1) then
       (wOpen n d4_0_23 e4_1_23 ((a0.getD i6_2.toNat (0, (0, []))).2.1)).bind fun r61_3 =>
       (rOpen n l5_0_23 d5_1_23 i5_2_23 ((a0.getD i6_2.toNat (0, (0, []))).2.1)).bind fun r65_3 =>
       lWrites_j2 n a0 r12 i6_2 (lWrites_l1 n a0 r12 fu_l1) r61_3.1 r61_3.2 r65_3.1 r65_3.2.1 r65_3.2.2
      else
       (wClose n d4_0_23 e4_1_23).bind fun r39_3 =>
       (rClose n l5_0_23 d5_1_23 i5_2_23).bind fun r41_3 =>
       lWrites_j2 n a0 r12 i6_2 (lWrites_l1 n a0 r12 fu_l1) r39_3.1 r39_3.2 r41_3.1 r41_3.2.1 r41_3.2.2
   else
    some r12
  else
   some r12
def lWrites (n : Nat) (a0 : List (Int × (UInt8 × List UInt8))) : Option (Bool) :=
 (tup n).bind fun r12 =>
 (wNew n).bind fun r13 =>
 (rNew n).bind fun r14 =>
 lWrites_l1 n a0 r12 n (([] : List (UInt8 × List UInt8)) ++ [(0, [])]) none [] (([] : List (List UInt8)) ++ [[]]) 0 0
def tup_R (r : Bool) : S := ⟨[(0, kB r)], [], []⟩
def tup_ct (n : Nat) (r : Bool) : Ct := ct0 fun H => ([tup n = some r], shA H.length (kB r), shH H.length [])
theorem tup_ok (n : Nat) (r : Bool) : FnOk Try.prog Tr 7 (tup_ct n r) := by
 refine fnok Try.func7 ?_
 refine HO_0 tabO_twa (tup_R r) [.tmp 0] [] 45 Try.func7 fun w hG h => ?_
 unfold tup at h
 have hT := tabO_twa
 refine Vrs hT [] ⟨[], [], []⟩ ?_
 obtain ⟨r7, g1, h⟩ := bind_some' h
 refine Vgs hT (fT 0 (wNew_ok n r7) fN) [] [] [0, 1, 2] ⟨[(1, kP 0 0)], [], [⟨.blk, 58, 1, 2, .c [.wh 1, .s (.v .nilIface)]⟩, ⟨.row, 64, 2, 1, .c [.s (.u8 0), .wh 2]⟩, ⟨.row, 5, 1, 0, .b []⟩]⟩ (aP g1 aN) ?_
 obtain ⟨r9, g2, h⟩ := bind_some' h
 refine Vgs hT (fT 1 (tNewR_ok n r9) fN) [] [] [0, 1, 2, 4, 5, 6] ⟨[(1, kP 0 0), (2, kP 3 0)], [], [⟨.blk, 58, 1, 2, .c [.wh 1, .s (.v .nilIface)]⟩, ⟨.row, 64, 2, 1, .c [.s (.u8 0), .wh 2]⟩, ⟨.row, 5, 1, 0, .b []⟩, ⟨.blk, 68, 1, 3, .c [.wh 4, .s (.k .i64 0), .wh 5]⟩, nb 5 r9.1, nz 3 r9.2]⟩ (aP g2 aN) ?_
 refine W_seq ?_
 refine Vrs hT [0, 1, 2, 3, 4, 5] ⟨[(1, kP 0 0), (2, kP 3 0), (15, kB false)], [], [⟨.blk, 58, 1, 2, .c [.wh 1, .s (.v .nilIface)]⟩, ⟨.row, 64, 2, 1, .c [.s (.u8 0), .wh 2]⟩, ⟨.row, 5, 1, 0, .b []⟩, ⟨.blk, 68, 1, 3, .c [.wh 4, .s (.k .i64 0), .wh 5]⟩, nb 5 r9.1, nz 3 r9.2]⟩ ?_
 refine Vi (false) (fun hb => by cases hb) (fun _ => ?_)
 refine W_skip ?_
 obtain ⟨r17, g3, h⟩ := bind_some' h
 refine Vgs hT (fM 1 (wOpen1_ok n r17) fN) [] [] [0, 6, 7, 8, 3, 4, 5] ⟨[(1, kP 0 0), (2, kP 4 0)], [], [⟨.blk, 58, 1, 2, .c [.wh 1, .s (.er 29 .i64 none)]⟩, ⟨.row, 64, 2, 2, .c [.s (.u8 0), .wh 2, .s (.u8 48), .wh 3]⟩, nb 5 [], ⟨.row, 5, 1, 0, .b []⟩, ⟨.blk, 68, 1, 3, .c [.wh 5, .s (.k .i64 0), .wh 6]⟩, nb 5 r9.1, nz 3 r9.2]⟩ (aP g3 aN) ?_
 obtain ⟨r20, g4, h⟩ := bind_some' h
 refine Vgs hT (fM 2 (wPut2_ok n r20) fN) [] [] [0, 8, 9, 10, 4, 5, 6] ⟨[(1, kP 0 0), (2, kP 4 0)], [], [⟨.blk, 58, 1, 2, .c [.wh 1, .s (.er 29 .i64 none)]⟩, ⟨.row, 64, 2, 2, .c [.s (.u8 0), .wh 2, .s (.u8 48), .wh 3]⟩, nb 5 [], nb 5 r20, ⟨.blk, 68, 1, 3, .c [.wh 5, .s (.k .i64 0), .wh 6]⟩, nb 5 r9.1, nz 3 r9.2]⟩ (aP g4 aN) ?_
 obtain ⟨r22, g5, h⟩ := bind_some' h
 refine Vgs hT (fM 1 (wClose2_ok n r22) fN) [] [] [0, 7, 8, 4, 5, 6] ⟨[(1, kP 0 0), (2, kP 3 0)], [], [⟨.blk, 58, 1, 2, .c [.wh 1, .s (.er 29 .i64 none)]⟩, ⟨.row, 64, 2, 1, .c [.s (.u8 0), .wh 2]⟩, nb 5 r22, ⟨.blk, 68, 1, 3, .c [.wh 4, .s (.k .i64 0), .wh 5]⟩, nb 5 r9.1, nz 3 r9.2]⟩ (aP g5 aN) ?_
 obtain ⟨r25, g6, h⟩ := bind_some' h
 refine Vgs hT (fM 1 (wBytes1_ok n r25) fN) [] [] [3, 4, 5, 8] ⟨[(2, kP 0 0), (3, kH 3), (4, kE 29 none)], [], [⟨.blk, 68, 1, 3, .c [.wh 1, .s (.k .i64 0), .wh 2]⟩, nb 5 r9.1, nz 3 r9.2, nb 5 r22]⟩ (aP g6 aN) ?_
 obtain ⟨r30, g7, h⟩ := bind_some' h
 refine Vgs hT (fM 1 (tTake_ok n r30) fN) [] [] [3] ⟨[(3, kH 0), (4, kE 29 none), (6, kE 29 r30.2.2)], [], [nb 5 r22]⟩ (aP g7 aN) ?_
 refine W_seq ?_
 rcases Bool.eq_false_or_eq_true (r22 == ([48, 3, 2, 1, 5] : List UInt8)) with g8 | g8
 ·replace h := bif_t h g8
  obtain ⟨g9, h⟩ := gd_some h
  refine Vg hT fN [(7, true)] [] [] ⟨[(0, kB (r30.2.2 == (some 2)))], [], []⟩ (aP g8 (aP g9 aN)) ?_
  refine Vc [] [] (tup_R (r30.2.2 == (some 2))) (W_ret ?_)
  exact ⟨.inl rfl, by cases h; rfl⟩
 ·replace h := bif_f h g8
  refine Vg hT fN [(7, false)] [] [] ⟨[(0, kB false)], [], []⟩ (aP g8 aN) ?_
  refine Vc [] [] (tup_R false) (W_ret ?_)
  exact ⟨.inl rfl, by cases h; rfl⟩
def tpick_j1_E (a1 : Int) (i0_1 : Int) : S := ⟨[(0, kI i0_1), (1, kI a1)], [], []⟩
abbrev tpick_j1_P (n : Nat) (a1 : Int) (r : Int) : S → Prop := fun s => ∃ (i0_1 : Int), s = tpick_j1_E a1 i0_1 ∧ tpick_j1 n a1 i0_1 = some r
def tpick_R (r : Int) : S := ⟨[(4, kI r)], [], []⟩
def tpick_ct (n : Nat) (r : Int) : Ct := ctc rI.rd fun _ l0 => ctc rI.rd fun _ l1 => ct0 fun H => ([tpick n l0 l1 = some r], shA H.length (kI r), shH H.length [])
theorem tpick_ok (n : Nat) (r : Int) : FnOk Try.prog Tr 13 (tpick_ct n r) := by
 refine fnok Try.func13 ?_
 refine HO_c rI fun l0 _ => HO_c rI fun l1 _ => HO_0 tabO_twa (tpick_R r) [.tmp 4] [] 13 Try.func13 fun w hG h => ?_
 unfold tpick at h
 have hT := tabO_twa
 refine Vrs hT [] ⟨[(0, kI l0), (1, kI l1)], [], []⟩ ?_
 refine W_join (tpick_j1_P n l1 r) ?_ ?_
 ·rintro _ ⟨i0_1, rfl, h⟩
  unfold tpick_j1 at h
  obtain ⟨g1, h⟩ := gd_some h
  refine Vgs hT fN [] [] [] ⟨[(4, kI (Int.tmod i0_1 l1))], [], []⟩ (aP g1 aN) ?_
  refine Vc [] [] (tpick_R (Int.tmod i0_1 l1)) (W_ret ?_)
  exact ⟨.inl rfl, by cases h; rfl⟩
 ·refine W_seq ?_
  refine Vr hT [] ⟨[(0, kI l0), (1, kI l1), (6, kB (decide (l0 < (0 : Int))))], [], []⟩ ?_
  refine Vi ((decide (l0 < (0 : Int)))) (fun g4 => ?_) (fun g4 => ?_)
  ·replace h := bif_t h g4
   obtain ⟨g2, g3, h⟩ := gd2 h
   refine Vg hT fN [] [] [] (tpick_j1_E l1 (-(l0 + 1))) (aP g2 (aP g3 aN)) ?_
   exact ⟨_, rfl, h⟩
  ·replace h := bif_f h g4
   refine Vc [] [] (tpick_j1_E l1 l0) (W_skip ?_)
   exact ⟨_, rfl, h⟩
def lWrites_j1_E (a0 : List (Int × (UInt8 × List UInt8))) (r12 : Bool) (i6_2 : Int) (d4_0_28 : List (UInt8 × List UInt8)) (e4_1_28 : Option Int) (l5_0_28 : List UInt8) (d5_1_28 : List (List UInt8)) (i5_2_28 : Int) : S := ⟨[(0, kH 0), (3, kB r12), (4, kP 1 0), (5, kP 4 0), (6, kI i6_2)], [], [⟨(.dp false), 38, 3, a0.length, .d (.pr .i64 (.pr .u8 (.by 5))) a0⟩, ⟨.blk, 58, 1, 2, .c [.wh 2, .s (.er 29 .i64 e4_1_28)]⟩, ⟨.row, 64, 2, d4_0_28.length, .g 3 d4_0_28.length 2 []⟩, ⟨.og, 64, 2, d4_0_28.length, .d (.pr .u8 (.by 5)) d4_0_28⟩, ⟨.blk, 61, 1, 3, .c [.wh 5, .wh 6, .s (.k .i64 i5_2_28)]⟩, nb 5 l5_0_28, ⟨.row, 23, 1, d5_1_28.length, .g 7 d5_1_28.length 1 []⟩, ⟨.og, 23, 1, d5_1_28.length, .d (.by 5) d5_1_28⟩]⟩
abbrev lWrites_j1_P (n : Nat) (a0 : List (Int × (UInt8 × List UInt8))) (r12 : Bool) (i6_2 : Int) (k_l1 : (List (UInt8 × List UInt8)) → (Option Int) → (List UInt8) → (List (List UInt8)) → Int → Int → Option (Bool)) (r : Bool) : S → Prop := fun s => ∃ (d4_0_28 : List (UInt8 × List UInt8)), ∃ (e4_1_28 : Option Int), ∃ (l5_0_28 : List UInt8), ∃ (d5_1_28 : List (List UInt8)), ∃ (i5_2_28 : Int), s = lWrites_j1_E a0 r12 i6_2 d4_0_28 e4_1_28 l5_0_28 d5_1_28 i5_2_28 ∧ lWrites_j1 n a0 r12 i6_2 k_l1 d4_0_28 e4_1_28 l5_0_28 d5_1_28 i5_2_28 = some r
def lWrites_j2_E (a0 : List (Int × (UInt8 × List UInt8))) (r12 : Bool) (i6_2 : Int) (d4_0_29 : List (UInt8 × List UInt8)) (e4_1_29 : Option Int) (l5_0_29 : List UInt8) (d5_1_29 : List (List UInt8)) (i5_2_29 : Int) : S := ⟨[(0, kH 0), (3, kB r12), (4, kP 1 0), (5, kP 4 0), (6, kI i6_2)], [], [⟨(.dp false), 38, 3, a0.length, .d (.pr .i64 (.pr .u8 (.by 5))) a0⟩, ⟨.blk, 58, 1, 2, .c [.wh 2, .s (.er 29 .i64 e4_1_29)]⟩, ⟨.row, 64, 2, d4_0_29.length, .g 3 d4_0_29.length 2 []⟩, ⟨.og, 64, 2, d4_0_29.length, .d (.pr .u8 (.by 5)) d4_0_29⟩, ⟨.blk, 61, 1, 3, .c [.wh 5, .wh 6, .s (.k .i64 i5_2_29)]⟩, nb 5 l5_0_29, ⟨.row, 23, 1, d5_1_29.length, .g 7 d5_1_29.length 1 []⟩, ⟨.og, 23, 1, d5_1_29.length, .d (.by 5) d5_1_29⟩]⟩
abbrev lWrites_j2_P (n : Nat) (a0 : List (Int × (UInt8 × List UInt8))) (r12 : Bool) (i6_2 : Int) (k_l1 : (List (UInt8 × List UInt8)) → (Option Int) → (List UInt8) → (List (List UInt8)) → Int → Int → Option (Bool)) (r : Bool) : S → Prop := fun s => ∃ (d4_0_29 : List (UInt8 × List UInt8)), ∃ (e4_1_29 : Option Int), ∃ (l5_0_29 : List UInt8), ∃ (d5_1_29 : List (List UInt8)), ∃ (i5_2_29 : Int), s = lWrites_j2_E a0 r12 i6_2 d4_0_29 e4_1_29 l5_0_29 d5_1_29 i5_2_29 ∧ lWrites_j2 n a0 r12 i6_2 k_l1 d4_0_29 e4_1_29 l5_0_29 d5_1_29 i5_2_29 = some r
def lWrites_l1_E (a0 : List (Int × (UInt8 × List UInt8))) (r12 : Bool) (d4_0_23 : List (UInt8 × List UInt8)) (e4_1_23 : Option Int) (l5_0_23 : List UInt8) (d5_1_23 : List (List UInt8)) (i5_2_23 : Int) (i6_2 : Int) : S := ⟨[(0, kH 0), (3, kB r12), (4, kP 1 0), (5, kP 4 0), (6, kI i6_2)], [], [⟨(.dp false), 38, 3, a0.length, .d (.pr .i64 (.pr .u8 (.by 5))) a0⟩, ⟨.blk, 58, 1, 2, .c [.wh 2, .s (.er 29 .i64 e4_1_23)]⟩, ⟨.row, 64, 2, d4_0_23.length, .g 3 d4_0_23.length 2 []⟩, ⟨.og, 64, 2, d4_0_23.length, .d (.pr .u8 (.by 5)) d4_0_23⟩, ⟨.blk, 61, 1, 3, .c [.wh 5, .wh 6, .s (.k .i64 i5_2_23)]⟩, nb 5 l5_0_23, ⟨.row, 23, 1, d5_1_23.length, .g 7 d5_1_23.length 1 []⟩, ⟨.og, 23, 1, d5_1_23.length, .d (.by 5) d5_1_23⟩]⟩
abbrev lWrites_l1_P (n : Nat) (a0 : List (Int × (UInt8 × List UInt8))) (r12 : Bool) (r : Bool) (fu : Nat) : S → Prop := fun s => ∃ (d4_0_23 : List (UInt8 × List UInt8)), ∃ (e4_1_23 : Option Int), ∃ (l5_0_23 : List UInt8), ∃ (d5_1_23 : List (List UInt8)), ∃ (i5_2_23 : Int), ∃ (i6_2 : Int), s = lWrites_l1_E a0 r12 d4_0_23 e4_1_23 l5_0_23 d5_1_23 i5_2_23 i6_2 ∧ lWrites_l1 n a0 r12 fu d4_0_23 e4_1_23 l5_0_23 d5_1_23 i5_2_23 i6_2 = some r
def lWrites_R (r : Bool) : S := ⟨[(2, kB r)], [], []⟩
def lWrites_ct (n : Nat) (r : Bool) : Ct := ctc (rD 38 (.pr .i64 (.pr .u8 (.by 5)))).rd fun _ l0 => ct0 fun H => ([lWrites n l0 = some r], shA H.length (kB r), shH H.length [])
theorem lWrites_ok (n : Nat) (r : Bool) : FnOk Try.prog Tr 4 (lWrites_ct n r) := by
 refine fnok Try.func4 ?_
 refine HO_c (rD 38 (.pr .i64 (.pr .u8 (.by 5)))) fun (l0 : List (Int × (UInt8 × List UInt8))) _ => HO_0 tabO_twa (lWrites_R r) [.tmp 2] [] 88 Try.func4 fun w hG h => ?_
 unfold lWrites at h
 have hT := tabO_twa
 refine Vrs hT [0] ⟨[(0, kH 0)], [], [⟨(.dp false), 38, 3, l0.length, .d (.pr .i64 (.pr .u8 (.by 5))) l0⟩]⟩ ?_
 obtain ⟨r12, g1, h⟩ := bind_some' h
 refine Vgs hT (fT 0 (tup_ok n r12) fN) [] [] [0] ⟨[(0, kH 0), (3, kB r12)], [], [⟨(.dp false), 38, 3, l0.length, .d (.pr .i64 (.pr .u8 (.by 5))) l0⟩]⟩ (aP g1 aN) ?_
 obtain ⟨r13, g2, h⟩ := bind_some' h
 refine Vgs hT (fT 0 (wNew_ok n r13) fN) [] [] [0, 1, 2, 3] ⟨[(0, kH 0), (3, kB r12), (4, kP 1 0)], [], [⟨(.dp false), 38, 3, l0.length, .d (.pr .i64 (.pr .u8 (.by 5))) l0⟩, ⟨.blk, 58, 1, 2, .c [.wh 2, .s (.v .nilIface)]⟩, ⟨.row, 64, 2, 1, .c [.s (.u8 0), .wh 3]⟩, ⟨.row, 5, 1, 0, .b []⟩]⟩ (aP g2 aN) ?_
 obtain ⟨r14, g3, h⟩ := bind_some' h
 refine Vgs hT (fT 0 (rNew_ok n r14) fN) [] [] [0, 1, 2, 3, 4, 5, 6] ⟨[(0, kH 0), (3, kB r12), (4, kP 1 0), (5, kP 4 0)], [], [⟨(.dp false), 38, 3, l0.length, .d (.pr .i64 (.pr .u8 (.by 5))) l0⟩, ⟨.blk, 58, 1, 2, .c [.wh 2, .s (.v .nilIface)]⟩, ⟨.row, 64, 2, 1, .c [.s (.u8 0), .wh 3]⟩, ⟨.row, 5, 1, 0, .b []⟩, ⟨.blk, 61, 1, 3, .c [.wh 5, .wh 6, .s (.k .i64 0)]⟩, ⟨.row, 5, 1, 0, .b []⟩, ⟨.row, 23, 1, 1, .c [.nils]⟩]⟩ (aP g3 aN) ?_
 refine W_seq ?_
 refine Vrs hT [0, 1, 2, 3, 4, 5, 6] ⟨[(0, kH 0), (3, kB r12), (4, kP 1 0), (5, kP 4 0), (16, kB false)], [], [⟨(.dp false), 38, 3, l0.length, .d (.pr .i64 (.pr .u8 (.by 5))) l0⟩, ⟨.blk, 58, 1, 2, .c [.wh 2, .s (.v .nilIface)]⟩, ⟨.row, 64, 2, 1, .c [.s (.u8 0), .wh 3]⟩, ⟨.row, 5, 1, 0, .b []⟩, ⟨.blk, 61, 1, 3, .c [.wh 5, .wh 6, .s (.k .i64 0)]⟩, ⟨.row, 5, 1, 0, .b []⟩, ⟨.row, 23, 1, 1, .c [.nils]⟩]⟩ ?_
 refine Vi (false) (fun hb => by cases hb) (fun _ => ?_)
 refine Vc [] [0, 1, 2, 3, 4, 5, 6] ⟨[(0, kH 0), (3, kB r12), (4, kP 1 0), (5, kP 4 0)], [], [⟨(.dp false), 38, 3, l0.length, .d (.pr .i64 (.pr .u8 (.by 5))) l0⟩, ⟨.blk, 58, 1, 2, .c [.wh 2, .s (.v .nilIface)]⟩, ⟨.row, 64, 2, 1, .c [.s (.u8 0), .wh 3]⟩, ⟨.row, 5, 1, 0, .b []⟩, ⟨.blk, 61, 1, 3, .c [.wh 5, .wh 6, .s (.k .i64 0)]⟩, ⟨.row, 5, 1, 0, .b []⟩, ⟨.row, 23, 1, 1, .c [.nils]⟩]⟩ (W_skip ?_)
 refine W_seq ?_
 refine W_seq ?_
 refine W_cod [.oc 2 (.pr .u8 (.by 5)), .ps 2 [3], .oc 6 (.by 5), .ps 6 []] [0, 0] [] [0, 3, 4, 5] [0, 1, 2, 8, 4, 5, 6, 10] (s' := ⟨[(0, kH 0), (3, kB r12), (4, kP 1 0), (5, kP 4 0)], [], [⟨(.dp false), 38, 3, l0.length, .d (.pr .i64 (.pr .u8 (.by 5))) l0⟩, ⟨.blk, 58, 1, 2, .c [.wh 2, .s (.v .nilIface)]⟩, ⟨.row, 64, 2, (([] : List (UInt8 × List UInt8)) ++ [(0, [])]).length, .g 3 ((([] : List (UInt8 × List UInt8)) ++ [(0, [])]).length) 2 []⟩, ⟨.og, 64, 2, (([] : List (UInt8 × List UInt8)) ++ [(0, [])]).length, .d (.pr .u8 (.by 5)) (([] : List (UInt8 × List UInt8)) ++ [(0, [])])⟩, ⟨.blk, 61, 1, 3, .c [.wh 5, .wh 6, .s (.k .i64 0)]⟩, ⟨.row, 5, 1, 0, .b []⟩, ⟨.row, 23, 1, (([] : List (List UInt8)) ++ [[]]).length, .g 7 ((([] : List (List UInt8)) ++ [[]]).length) 1 []⟩, ⟨.og, 23, 1, (([] : List (List UInt8)) ++ [[]]).length, .d (.by 5) (([] : List (List UInt8)) ++ [[]])⟩]⟩) (by kernel_rfl) ?_
 refine Vr hT [0, 1, 2, 3, 4, 5, 6, 7] ⟨[(0, kH 0), (3, kB r12), (4, kP 1 0), (5, kP 4 0), (6, kI 0)], [], [⟨(.dp false), 38, 3, l0.length, .d (.pr .i64 (.pr .u8 (.by 5))) l0⟩, ⟨.blk, 58, 1, 2, .c [.wh 2, .s (.v .nilIface)]⟩, ⟨.row, 64, 2, (([] : List (UInt8 × List UInt8)) ++ [(0, [])]).length, .g 3 ((([] : List (UInt8 × List UInt8)) ++ [(0, [])]).length) 2 []⟩, ⟨.og, 64, 2, (([] : List (UInt8 × List UInt8)) ++ [(0, [])]).length, .d (.pr .u8 (.by 5)) (([] : List (UInt8 × List UInt8)) ++ [(0, [])])⟩, ⟨.blk, 61, 1, 3, .c [.wh 5, .wh 6, .s (.k .i64 0)]⟩, ⟨.row, 5, 1, 0, .b []⟩, ⟨.row, 23, 1, (([] : List (List UInt8)) ++ [[]]).length, .g 7 ((([] : List (List UInt8)) ++ [[]]).length) 1 []⟩, ⟨.og, 23, 1, (([] : List (List UInt8)) ++ [[]]).length, .d (.by 5) (([] : List (List UInt8)) ++ [[]])⟩]⟩ ?_
 refine W_block ?_
 refine W_cod [.ec 1 1 29] [] [] [0, 3, 4, 5, 6] [0, 1, 2, 3, 4, 5, 6, 7] (s' := (lWrites_l1_E l0 r12 (([] : List (UInt8 × List UInt8)) ++ [(0, [])]) none [] (([] : List (List UInt8)) ++ [[]]) 0 0)) (by kernel_rfl) (W_lp ((lWrites_l1_P n l0 r12 r)) n ⟨_, _, _, _, _, _, rfl, h⟩ ?_)
 rintro fu_l1 _ ⟨d4_0_23, e4_1_23, l5_0_23, d5_1_23, i5_2_23, i6_2, rfl, h⟩
 cases fu_l1 with
 | zero => cases h
 | succ fu_l1 =>
  refine ⟨fu_l1, rfl, ?_⟩
  rw [lWrites_l1] at h
  refine W_seq ?_
  refine W_seq ?_
  rcases Bool.eq_false_or_eq_true (decide (i6_2 < ((l0.length : Nat) : Int))) with g4 | g4
  ·replace h := bif_t h g4
   refine Vg hT fN [(4, true)] [] [0, 1, 2, 3, 4, 5, 6, 7] ⟨[(0, kH 0), (3, kB r12), (4, kP 1 0), (5, kP 4 0), (6, kI i6_2), (24, kB (decide (i6_2 < (80 : Int))))], [], [⟨(.dp false), 38, 3, l0.length, .d (.pr .i64 (.pr .u8 (.by 5))) l0⟩, ⟨.blk, 58, 1, 2, .c [.wh 2, .s (.er 29 .i64 e4_1_23)]⟩, ⟨.row, 64, 2, d4_0_23.length, .g 3 d4_0_23.length 2 []⟩, ⟨.og, 64, 2, d4_0_23.length, .d (.pr .u8 (.by 5)) d4_0_23⟩, ⟨.blk, 61, 1, 3, .c [.wh 5, .wh 6, .s (.k .i64 i5_2_23)]⟩, nb 5 l5_0_23, ⟨.row, 23, 1, d5_1_23.length, .g 7 d5_1_23.length 1 []⟩, ⟨.og, 23, 1, d5_1_23.length, .d (.by 5) d5_1_23⟩]⟩ (aP g4 aN) ?_
   refine Vi ((decide (i6_2 < (80 : Int)))) (fun g23 => ?_) (fun g23 => ?_)
   ·replace h := bif_t h g23
    refine Vc [] [0, 1, 2, 3, 4, 5, 6, 7] ⟨[(0, kH 0), (3, kB r12), (4, kP 1 0), (5, kP 4 0), (6, kI i6_2)], [], [⟨(.dp false), 38, 3, l0.length, .d (.pr .i64 (.pr .u8 (.by 5))) l0⟩, ⟨.blk, 58, 1, 2, .c [.wh 2, .s (.er 29 .i64 e4_1_23)]⟩, ⟨.row, 64, 2, d4_0_23.length, .g 3 d4_0_23.length 2 []⟩, ⟨.og, 64, 2, d4_0_23.length, .d (.pr .u8 (.by 5)) d4_0_23⟩, ⟨.blk, 61, 1, 3, .c [.wh 5, .wh 6, .s (.k .i64 i5_2_23)]⟩, nb 5 l5_0_23, ⟨.row, 23, 1, d5_1_23.length, .g 7 d5_1_23.length 1 []⟩, ⟨.og, 23, 1, d5_1_23.length, .d (.by 5) d5_1_23⟩]⟩ (W_skip ?_)
    refine W_join (lWrites_j1_P n l0 r12 i6_2 (lWrites_l1 n l0 r12 fu_l1) r) ?_ ?_
    ·rintro _ ⟨d4_0_28, e4_1_28, l5_0_28, d5_1_28, i5_2_28, rfl, h⟩
     unfold lWrites_j1 at h
     obtain ⟨g5, h⟩ := gd_some h
     refine Vg hT fN [] [] [0, 1, 2, 3, 4, 5, 6, 7] (lWrites_l1_E l0 r12 d4_0_28 e4_1_28 l5_0_28 d5_1_28 i5_2_28 (i6_2 + 1)) (aP g5 aN) ?_
     exact ⟨_, _, _, _, _, _, rfl, h⟩
    ·refine W_block ?_
     obtain ⟨g6, g7, h⟩ := gd2 h
     refine Vgs hT fN [] [] [0, 1, 2, 3, 4, 5, 6, 7, 8] ⟨[(0, kH 0), (3, kB r12), (4, kP 1 0), (5, kP 4 0), (6, kI i6_2), (7, kP 8 0)], [], [⟨(.dp false), 38, 3, l0.length, .d (.pr .i64 (.pr .u8 (.by 5))) l0⟩, ⟨.blk, 58, 1, 2, .c [.wh 2, .s (.er 29 .i64 e4_1_23)]⟩, ⟨.row, 64, 2, d4_0_23.length, .g 3 d4_0_23.length 2 []⟩, ⟨.og, 64, 2, d4_0_23.length, .d (.pr .u8 (.by 5)) d4_0_23⟩, ⟨.blk, 61, 1, 3, .c [.wh 5, .wh 6, .s (.k .i64 i5_2_23)]⟩, nb 5 l5_0_23, ⟨.row, 23, 1, d5_1_23.length, .g 7 d5_1_23.length 1 []⟩, ⟨.og, 23, 1, d5_1_23.length, .d (.by 5) d5_1_23⟩, ⟨.blk, 38, 1, 3, .c [.s (.k .i64 ((l0.getD i6_2.toNat (0, (0, []))).1)), .s (.u8 ((l0.getD i6_2.toNat (0, (0, []))).2.1)), .dv 0 [(i6_2.toNat, 2)]]⟩]⟩ (aP g6 (aP g7 aN)) ?_
     refine W_seq ?_
     refine Vrs hT [0, 1, 2, 3, 4, 5, 6, 7, 8] ⟨[(0, kH 0), (3, kB r12), (4, kP 1 0), (5, kP 4 0), (6, kI i6_2), (7, kP 8 0), (34, kB (decide ((300 : Int) < ((((l0.getD i6_2.toNat (0, (0, []))).2.2).length : Nat) : Int))))], [], [⟨(.dp false), 38, 3, l0.length, .d (.pr .i64 (.pr .u8 (.by 5))) l0⟩, ⟨.blk, 58, 1, 2, .c [.wh 2, .s (.er 29 .i64 e4_1_23)]⟩, ⟨.row, 64, 2, d4_0_23.length, .g 3 d4_0_23.length 2 []⟩, ⟨.og, 64, 2, d4_0_23.length, .d (.pr .u8 (.by 5)) d4_0_23⟩, ⟨.blk, 61, 1, 3, .c [.wh 5, .wh 6, .s (.k .i64 i5_2_23)]⟩, nb 5 l5_0_23, ⟨.row, 23, 1, d5_1_23.length, .g 7 d5_1_23.length 1 []⟩, ⟨.og, 23, 1, d5_1_23.length, .d (.by 5) d5_1_23⟩, ⟨.blk, 38, 1, 3, .c [.s (.k .i64 ((l0.getD i6_2.toNat (0, (0, []))).1)), .s (.u8 ((l0.getD i6_2.toNat (0, (0, []))).2.1)), .dv 0 [(i6_2.toNat, 2)]]⟩]⟩ ?_
     refine Vi ((decide ((300 : Int) < ((((l0.getD i6_2.toNat (0, (0, []))).2.2).length : Nat) : Int)))) (fun g22 => ?_) (fun g22 => ?_)
     ·replace h := bif_t h g22
      refine Vc [] [0, 1, 2, 3, 4, 5, 6, 7] (lWrites_j1_E l0 r12 i6_2 d4_0_23 e4_1_23 l5_0_23 d5_1_23 i5_2_23) (W_exit ?_)
      exact ⟨_, _, _, _, _, rfl, h⟩
     ·replace h := bif_f h g22
      refine Vc [] [0, 1, 2, 3, 4, 5, 6, 7, 8] ⟨[(0, kH 0), (3, kB r12), (4, kP 1 0), (5, kP 4 0), (6, kI i6_2), (7, kP 8 0)], [], [⟨(.dp false), 38, 3, l0.length, .d (.pr .i64 (.pr .u8 (.by 5))) l0⟩, ⟨.blk, 58, 1, 2, .c [.wh 2, .s (.er 29 .i64 e4_1_23)]⟩, ⟨.row, 64, 2, d4_0_23.length, .g 3 d4_0_23.length 2 []⟩, ⟨.og, 64, 2, d4_0_23.length, .d (.pr .u8 (.by 5)) d4_0_23⟩, ⟨.blk, 61, 1, 3, .c [.wh 5, .wh 6, .s (.k .i64 i5_2_23)]⟩, nb 5 l5_0_23, ⟨.row, 23, 1, d5_1_23.length, .g 7 d5_1_23.length 1 []⟩, ⟨.og, 23, 1, d5_1_23.length, .d (.by 5) d5_1_23⟩, ⟨.blk, 38, 1, 3, .c [.s (.k .i64 ((l0.getD i6_2.toNat (0, (0, []))).1)), .s (.u8 ((l0.getD i6_2.toNat (0, (0, []))).2.1)), .dv 0 [(i6_2.toNat, 2)]]⟩]⟩ (W_skip ?_)
      refine W_join (lWrites_j2_P n l0 r12 i6_2 (lWrites_l1 n l0 r12 fu_l1) r) ?_ ?_
      ·rintro _ ⟨d4_0_29, e4_1_29, l5_0_29, d5_1_29, i5_2_29, rfl, h⟩
       unfold lWrites_j2 at h
       refine W_seq ?_
       obtain ⟨r68_17, g8, h⟩ := bind_some' h
       replace g8 := mgA d4_0_29.length g8
       refine Vg hT (fM 1 (wBytes_ok n r68_17) fN) [] [] [0, 1, 8, 9, 4, 5, 6, 7, 10] ⟨[(0, kH 0), (3, kB r12), (4, kP 1 0), (5, kP 4 0), (6, kI i6_2), (8, kH 8), (9, kE 29 r68_17.2.2.2)], [], [⟨(.dp false), 38, 3, l0.length, .d (.pr .i64 (.pr .u8 (.by 5))) l0⟩, ⟨.blk, 58, 1, 2, .c [.wh 2, .s (.er 29 .i64 r68_17.2.1)]⟩, ⟨.row, 64, 2, r68_17.1.length, .g 3 r68_17.1.length 2 []⟩, ⟨.og, 64, 2, r68_17.1.length, .d (.pr .u8 (.by 5)) r68_17.1⟩, ⟨.blk, 61, 1, 3, .c [.wh 5, .wh 6, .s (.k .i64 i5_2_29)]⟩, nb 5 l5_0_29, ⟨.row, 23, 1, d5_1_29.length, .g 7 d5_1_29.length 1 []⟩, ⟨.og, 23, 1, d5_1_29.length, .d (.by 5) d5_1_29⟩, nb 5 r68_17.2.2.1]⟩ (aP g8 aN) ?_
       refine W_seq ?_
       obtain ⟨r73_17, g9, h⟩ := bind_some' h
       replace g9 := mgA d5_1_29.length g9
       refine Vg hT (fM 1 (rDone_ok n r73_17) fN) [] [] [0, 1, 2, 3, 4, 9, 10, 11, 12, 8] ⟨[(0, kH 0), (3, kB r12), (4, kP 1 0), (5, kP 4 0), (6, kI i6_2), (8, kH 9), (9, kE 29 r68_17.2.2.2), (10, .c (.sl 8 0 r73_17.2.2.1)), (11, kI r73_17.2.2.2)], [], [⟨(.dp false), 38, 3, l0.length, .d (.pr .i64 (.pr .u8 (.by 5))) l0⟩, ⟨.blk, 58, 1, 2, .c [.wh 2, .s (.er 29 .i64 r68_17.2.1)]⟩, ⟨.row, 64, 2, r68_17.1.length, .g 3 r68_17.1.length 2 []⟩, ⟨.og, 64, 2, r68_17.1.length, .d (.pr .u8 (.by 5)) r68_17.1⟩, ⟨.blk, 61, 1, 3, .c [.wh 5, .wh 6, .s (.k .i64 i5_2_29)]⟩, nb 5 l5_0_29, ⟨.row, 23, 1, d5_1_29.length, .g 7 r73_17.1.length 1 [.wh 8]⟩, ⟨.og, 23, 1, r73_17.1.length, .d (.by 5) r73_17.1⟩, nb 5 r73_17.2.1, nb 5 r68_17.2.2.1]⟩ (aP g9 aN) ?_
       refine W_seq ?_
       obtain ⟨r77_17, g10, h⟩ := bind_some' h
       rcases Bool.eq_false_or_eq_true (r77_17 != r73_17.2.2.2) with g11 | g11
       ·replace h := bif_t h g11
        refine Vg hT (fT 1 (code_ok n r77_17) fN) [(4, true)] [] [0, 1, 2, 3, 4, 5, 6, 7, 8] ⟨[(0, kH 0), (3, kB r12), (4, kP 1 0), (5, kP 4 0), (6, kI i6_2), (86, kB true)], [], [⟨(.dp false), 38, 3, l0.length, .d (.pr .i64 (.pr .u8 (.by 5))) l0⟩, ⟨.blk, 58, 1, 2, .c [.wh 2, .s (.er 29 .i64 r68_17.2.1)]⟩, ⟨.row, 64, 2, r68_17.1.length, .g 3 r68_17.1.length 2 []⟩, ⟨.og, 64, 2, r68_17.1.length, .d (.pr .u8 (.by 5)) r68_17.1⟩, ⟨.blk, 61, 1, 3, .c [.wh 5, .wh 6, .s (.k .i64 i5_2_29)]⟩, nb 5 l5_0_29, ⟨.row, 23, 1, d5_1_29.length, .g 7 r73_17.1.length 1 [.wh 8]⟩, ⟨.og, 23, 1, r73_17.1.length, .d (.by 5) r73_17.1⟩, nb 5 r73_17.2.1]⟩ (aP g10 (aP g11 aN)) ?_
        refine Vi (true) (fun _ => ?_) (fun hb => by cases hb)
        refine Vrs hT [] ⟨[(2, kB false)], [], []⟩ ?_
        refine Vc [] [] (lWrites_R false) (W_ret ?_)
        exact ⟨.inl rfl, by cases h; rfl⟩
       ·replace h := bif_f h g11
        refine Vg hT (fT 1 (code_ok n r77_17) fN) [(4, false)] [] [0, 1, 2, 3, 4, 5, 6, 7, 8] ⟨[(0, kH 0), (3, kB r12), (4, kP 1 0), (5, kP 4 0), (6, kI i6_2), (86, kB (r68_17.2.2.1 != ((r73_17.2.1.drop 0).take r73_17.2.2.1)))], [], [⟨(.dp false), 38, 3, l0.length, .d (.pr .i64 (.pr .u8 (.by 5))) l0⟩, ⟨.blk, 58, 1, 2, .c [.wh 2, .s (.er 29 .i64 r68_17.2.1)]⟩, ⟨.row, 64, 2, r68_17.1.length, .g 3 r68_17.1.length 2 []⟩, ⟨.og, 64, 2, r68_17.1.length, .d (.pr .u8 (.by 5)) r68_17.1⟩, ⟨.blk, 61, 1, 3, .c [.wh 5, .wh 6, .s (.k .i64 i5_2_29)]⟩, nb 5 l5_0_29, ⟨.row, 23, 1, d5_1_29.length, .g 7 r73_17.1.length 1 [.wh 8]⟩, ⟨.og, 23, 1, r73_17.1.length, .d (.by 5) r73_17.1⟩, nb 5 r73_17.2.1]⟩ (aP g10 (aP g11 aN)) ?_
        refine Vi ((r68_17.2.2.1 != ((r73_17.2.1.drop 0).take r73_17.2.2.1))) (fun g12 => ?_) (fun g12 => ?_)
        ·replace h := bif_t h g12
         refine Vrs hT [] ⟨[(2, kB false)], [], []⟩ ?_
         refine Vc [] [] (lWrites_R false) (W_ret ?_)
         exact ⟨.inl rfl, by cases h; rfl⟩
        ·replace h := bif_f h g12
         refine W_cod [.ps 6 [8]] [r73_17.1.length] [] [0, 3, 4, 5, 6] [0, 1, 2, 3, 4, 5, 6, 9] (s' := (lWrites_j1_E l0 r12 i6_2 r68_17.1 r68_17.2.1 l5_0_29 (r73_17.1 ++ [r73_17.2.1]) i5_2_29)) (by kernel_rfl) (W_skip ?_)
         exact ⟨_, _, _, _, _, rfl, h⟩
      ·refine W_seq ?_
       obtain ⟨r37_3, g13, h⟩ := bind_some' h
       refine Vg hT (fT 2 (tpick_ok n r37_3) fN) [] [] [0, 1, 2, 3, 4, 5, 6, 7, 8] ⟨[(0, kH 0), (3, kB r12), (4, kP 1 0), (5, kP 4 0), (6, kI i6_2), (7, kP 8 0), (37, kI r37_3)], [], [⟨(.dp false), 38, 3, l0.length, .d (.pr .i64 (.pr .u8 (.by 5))) l0⟩, ⟨.blk, 58, 1, 2, .c [.wh 2, .s (.er 29 .i64 e4_1_23)]⟩, ⟨.row, 64, 2, d4_0_23.length, .g 3 d4_0_23.length 2 []⟩, ⟨.og, 64, 2, d4_0_23.length, .d (.pr .u8 (.by 5)) d4_0_23⟩, ⟨.blk, 61, 1, 3, .c [.wh 5, .wh 6, .s (.k .i64 i5_2_23)]⟩, nb 5 l5_0_23, ⟨.row, 23, 1, d5_1_23.length, .g 7 d5_1_23.length 1 []⟩, ⟨.og, 23, 1, d5_1_23.length, .d (.by 5) d5_1_23⟩, ⟨.blk, 38, 1, 3, .c [.s (.k .i64 ((l0.getD i6_2.toNat (0, (0, []))).1)), .s (.u8 ((l0.getD i6_2.toNat (0, (0, []))).2.1)), .dv 0 [(i6_2.toNat, 2)]]⟩]⟩ (aP g13 aN) ?_
       refine W_block ?_
       refine Vrs hT [0, 1, 2, 3, 4, 5, 6, 7, 8] ⟨[(0, kH 0), (3, kB r12), (4, kP 1 0), (5, kP 4 0), (6, kI i6_2), (7, kP 8 0), (37, kI r37_3), (42, kB (r37_3 == 0))], [], [⟨(.dp false), 38, 3, l0.length, .d (.pr .i64 (.pr .u8 (.by 5))) l0⟩, ⟨.blk, 58, 1, 2, .c [.wh 2, .s (.er 29 .i64 e4_1_23)]⟩, ⟨.row, 64, 2, d4_0_23.length, .g 3 d4_0_23.length 2 []⟩, ⟨.og, 64, 2, d4_0_23.length, .d (.pr .u8 (.by 5)) d4_0_23⟩, ⟨.blk, 61, 1, 3, .c [.wh 5, .wh 6, .s (.k .i64 i5_2_23)]⟩, nb 5 l5_0_23, ⟨.row, 23, 1, d5_1_23.length, .g 7 d5_1_23.length 1 []⟩, ⟨.og, 23, 1, d5_1_23.length, .d (.by 5) d5_1_23⟩, ⟨.blk, 38, 1, 3, .c [.s (.k .i64 ((l0.getD i6_2.toNat (0, (0, []))).1)), .s (.u8 ((l0.getD i6_2.toNat (0, (0, []))).2.1)), .dv 0 [(i6_2.toNat, 2)]]⟩]⟩ ?_
       refine Vi ((r37_3 == 0)) (fun g21 => ?_) (fun g21 => ?_)
       ·replace h := bif_t h g21
        refine W_seq ?_
        obtain ⟨r49_3, g14, h⟩ := bind_some' h
        replace g14 := mgA d4_0_23.length g14
        refine Vg hT (fM 5 (wPut_ok n r49_3) fN) [] [] [0, 1, 9, 10, 4, 5, 6, 7, 8] ⟨[(0, kH 0), (3, kB r12), (4, kP 1 0), (5, kP 4 0), (6, kI i6_2), (7, kP 8 0)], [], [⟨(.dp false), 38, 3, l0.length, .d (.pr .i64 (.pr .u8 (.by 5))) l0⟩, ⟨.blk, 58, 1, 2, .c [.wh 2, .s (.er 29 .i64 r49_3.2)]⟩, ⟨.row, 64, 2, r49_3.1.length, .g 3 r49_3.1.length 2 []⟩, ⟨.og, 64, 2, r49_3.1.length, .d (.pr .u8 (.by 5)) r49_3.1⟩, ⟨.blk, 61, 1, 3, .c [.wh 5, .wh 6, .s (.k .i64 i5_2_23)]⟩, nb 5 l5_0_23, ⟨.row, 23, 1, d5_1_23.length, .g 7 d5_1_23.length 1 []⟩, ⟨.og, 23, 1, d5_1_23.length, .d (.by 5) d5_1_23⟩, ⟨.blk, 38, 1, 3, .c [.s (.k .i64 ((l0.getD i6_2.toNat (0, (0, []))).1)), .s (.u8 ((l0.getD i6_2.toNat (0, (0, []))).2.1)), .dv 0 [(i6_2.toNat, 2)]]⟩]⟩ (aP g14 aN) ?_
        obtain ⟨r55_3, g15, h⟩ := bind_some' h
        replace g15 := mgA d5_1_23.length g15
        refine Vg hT (fM 5 (rPut_ok n r55_3) fN) [] [] [0, 1, 2, 3, 4, 9, 10, 11] (lWrites_j2_E l0 r12 i6_2 r49_3.1 r49_3.2 l5_0_23 r55_3.1 r55_3.2) (aP g15 aN) ?_
        exact ⟨_, _, _, _, _, rfl, h⟩
       ·replace h := bif_f h g21
        refine Vrs hT [0, 1, 2, 3, 4, 5, 6, 7, 8] ⟨[(0, kH 0), (3, kB r12), (4, kP 1 0), (5, kP 4 0), (6, kI i6_2), (7, kP 8 0), (56, kB (r37_3 == 1))], [], [⟨(.dp false), 38, 3, l0.length, .d (.pr .i64 (.pr .u8 (.by 5))) l0⟩, ⟨.blk, 58, 1, 2, .c [.wh 2, .s (.er 29 .i64 e4_1_23)]⟩, ⟨.row, 64, 2, d4_0_23.length, .g 3 d4_0_23.length 2 []⟩, ⟨.og, 64, 2, d4_0_23.length, .d (.pr .u8 (.by 5)) d4_0_23⟩, ⟨.blk, 61, 1, 3, .c [.wh 5, .wh 6, .s (.k .i64 i5_2_23)]⟩, nb 5 l5_0_23, ⟨.row, 23, 1, d5_1_23.length, .g 7 d5_1_23.length 1 []⟩, ⟨.og, 23, 1, d5_1_23.length, .d (.by 5) d5_1_23⟩, ⟨.blk, 38, 1, 3, .c [.s (.k .i64 ((l0.getD i6_2.toNat (0, (0, []))).1)), .s (.u8 ((l0.getD i6_2.toNat (0, (0, []))).2.1)), .dv 0 [(i6_2.toNat, 2)]]⟩]⟩ ?_
        refine Vi ((r37_3 == 1)) (fun g20 => ?_) (fun g20 => ?_)
        ·replace h := bif_t h g20
         refine W_seq ?_
         obtain ⟨r61_3, g16, h⟩ := bind_some' h
         replace g16 := mgA d4_0_23.length g16
         refine Vg hT (fM 3 (wOpen_ok n r61_3) fN) [] [] [0, 1, 9, 10, 4, 5, 6, 7, 8] ⟨[(0, kH 0), (3, kB r12), (4, kP 1 0), (5, kP 4 0), (6, kI i6_2), (7, kP 8 0)], [], [⟨(.dp false), 38, 3, l0.length, .d (.pr .i64 (.pr .u8 (.by 5))) l0⟩, ⟨.blk, 58, 1, 2, .c [.wh 2, .s (.er 29 .i64 r61_3.2)]⟩, ⟨.row, 64, 2, r61_3.1.length, .g 3 r61_3.1.length 2 []⟩, ⟨.og, 64, 2, r61_3.1.length, .d (.pr .u8 (.by 5)) r61_3.1⟩, ⟨.blk, 61, 1, 3, .c [.wh 5, .wh 6, .s (.k .i64 i5_2_23)]⟩, nb 5 l5_0_23, ⟨.row, 23, 1, d5_1_23.length, .g 7 d5_1_23.length 1 []⟩, ⟨.og, 23, 1, d5_1_23.length, .d (.by 5) d5_1_23⟩, ⟨.blk, 38, 1, 3, .c [.s (.k .i64 ((l0.getD i6_2.toNat (0, (0, []))).1)), .s (.u8 ((l0.getD i6_2.toNat (0, (0, []))).2.1)), .dv 0 [(i6_2.toNat, 2)]]⟩]⟩ (aP g16 aN) ?_
         obtain ⟨r65_3, g17, h⟩ := bind_some' h
         replace g17 := mgA d5_1_23.length g17
         refine Vg hT (fM 3 (rOpen_ok n r65_3) fN) [] [] [0, 1, 2, 3, 4, 9, 10, 11] (lWrites_j2_E l0 r12 i6_2 r61_3.1 r61_3.2 r65_3.1 r65_3.2.1 r65_3.2.2) (aP g17 aN) ?_
         exact ⟨_, _, _, _, _, rfl, h⟩
        ·replace h := bif_f h g20
         refine W_seq ?_
         obtain ⟨r39_3, g18, h⟩ := bind_some' h
         replace g18 := mgA d4_0_23.length g18
         refine Vg hT (fM 1 (wClose_ok n r39_3) fN) [] [] [0, 1, 9, 10, 4, 5, 6, 7] ⟨[(0, kH 0), (3, kB r12), (4, kP 1 0), (5, kP 4 0), (6, kI i6_2)], [], [⟨(.dp false), 38, 3, l0.length, .d (.pr .i64 (.pr .u8 (.by 5))) l0⟩, ⟨.blk, 58, 1, 2, .c [.wh 2, .s (.er 29 .i64 r39_3.2)]⟩, ⟨.row, 64, 2, r39_3.1.length, .g 3 r39_3.1.length 2 []⟩, ⟨.og, 64, 2, r39_3.1.length, .d (.pr .u8 (.by 5)) r39_3.1⟩, ⟨.blk, 61, 1, 3, .c [.wh 5, .wh 6, .s (.k .i64 i5_2_23)]⟩, nb 5 l5_0_23, ⟨.row, 23, 1, d5_1_23.length, .g 7 d5_1_23.length 1 []⟩, ⟨.og, 23, 1, d5_1_23.length, .d (.by 5) d5_1_23⟩]⟩ (aP g18 aN) ?_
         obtain ⟨r41_3, g19, h⟩ := bind_some' h
         replace g19 := mgA d5_1_23.length g19
         refine Vg hT (fM 1 (rClose_ok n r41_3) fN) [] [] [0, 1, 2, 3, 4, 8, 9, 10] (lWrites_j2_E l0 r12 i6_2 r39_3.1 r39_3.2 r41_3.1 r41_3.2.1 r41_3.2.2) (aP g19 aN) ?_
         exact ⟨_, _, _, _, _, rfl, h⟩
   ·replace h := bif_f h g23
    refine Vc [] [] ⟨[(3, kB r12)], [], []⟩ (W_exit ?_)
    refine Vrs hT [] ⟨[(2, kB r12)], [], []⟩ ?_
    refine Vc [] [] (lWrites_R r12) (W_ret ?_)
    exact ⟨.inl rfl, by cases h; rfl⟩
  ·replace h := bif_f h g4
   refine Vg hT fN [(4, false)] [] [0, 1, 2, 3, 4, 5, 6, 7] ⟨[(0, kH 0), (3, kB r12), (4, kP 1 0), (5, kP 4 0), (6, kI i6_2), (24, kB false)], [], [⟨(.dp false), 38, 3, l0.length, .d (.pr .i64 (.pr .u8 (.by 5))) l0⟩, ⟨.blk, 58, 1, 2, .c [.wh 2, .s (.er 29 .i64 e4_1_23)]⟩, ⟨.row, 64, 2, d4_0_23.length, .g 3 d4_0_23.length 2 []⟩, ⟨.og, 64, 2, d4_0_23.length, .d (.pr .u8 (.by 5)) d4_0_23⟩, ⟨.blk, 61, 1, 3, .c [.wh 5, .wh 6, .s (.k .i64 i5_2_23)]⟩, nb 5 l5_0_23, ⟨.row, 23, 1, d5_1_23.length, .g 7 d5_1_23.length 1 []⟩, ⟨.og, 23, 1, d5_1_23.length, .d (.by 5) d5_1_23⟩]⟩ (aP g4 aN) ?_
   refine Vi (false) (fun hb => by cases hb) (fun _ => ?_)
   refine Vc [] [] ⟨[(3, kB r12)], [], []⟩ (W_exit ?_)
   refine Vrs hT [] ⟨[(2, kB r12)], [], []⟩ ?_
   refine Vc [] [] (lWrites_R r12) (W_ret ?_)
   exact ⟨.inl rfl, by cases h; rfl⟩
end Go.Proofs.Ytcdljciflkefaaa
end
section
namespace Go.Sx
open Go Go.RowKit Go.Ch Go.Proofs.Ytcdljciflkefaaa
theorem mk_all : ∀ i : Fin 256, ((UInt8.ofNat i.1 &&& 31) != 31) = ((UInt8.ofNat i.1 % 32) != 31) := by decide +kernel
theorem mk_eq (x : UInt8) : ((x &&& 31) != 31) = ((x % 32) != 31) := by simpa using mk_all ⟨x.toNat, x.toNat_lt⟩
theorem tvalid_is (n : Nat) (x : UInt8) : tvalid n x = some (x % 32 != 31) := by unfold tvalid; rw [mk_eq]
theorem rMark_is (n : Nat) (x : UInt8) : rMark n x = some (x % 32 != 31) := by unfold rMark; rw [gd_pos (by decide)]
theorem ofInt_mod (x : Int) : UInt8.ofInt (x % 256) = UInt8.ofInt x := by
 unfold UInt8.ofInt; congr 2; omega
def hdF (m : UInt8) (k : Int) : List UInt8 := bif decide (k < 128) then [m, UInt8.ofInt k] else bif decide (k < 256) then [m, 129, UInt8.ofInt k] else [m, 130, UInt8.ofInt (k / 256), UInt8.ofInt k]
theorem hdF_len (m : UInt8) (k : Int) : (hdF m k).length ≤ 4 := by
 unfold hdF; cases decide (k < 128) with
 | true => simp
 | false => cases decide (k < 256) with
  | true => simp
  | false => simp
theorem tHead_is (n : Nat) {m : UInt8} {k : Int} (hm : (m % 32 != 31) = true) (h0 : 0 ≤ k) (h1 : k ≤ 65535) : tHead n m k = some (hdF m k, none) := by
 unfold tHead hdF
 rw [tvalid_is, Option.bind_some, ite_f (by rw [hm]; rfl), ite_f (decide_eq_false (by omega)), ite_f (decide_eq_false (by omega))]
 cases decide (k < 128) with
 | true => rfl
 | false => cases decide (k < 256) with
  | true => rfl
  | false => simp only [cond_false]; rw [gd_pos (by decide), gd_pos (by decide)]; rfl
theorem rHead_is (n : Nat) {m : UInt8} {k : Int} (h0 : 0 ≤ k) (h1 : k ≤ 9223372036854775807) : rHead n m k = some (hdF m k) := by
 unfold rHead hdF
 cases decide (k < 128) with
 | true => rfl
 | false => cases decide (k < 256) with
  | true => rfl
  | false =>
   simp only [cond_false]
   have e : Int.tdiv k 256 = k / 256 := Int.tdiv_eq_ediv_of_nonneg h0
   have e2 : Int.tmod k 256 = k % 256 := Int.tmod_eq_emod_of_nonneg h0
   rw [gd_pos (by decide), e, e2, gd_pos (okI64 (by omega) (by omega)), gd_pos (by decide), ofInt_mod]
theorem rEl_is (n : Nat) (m : UInt8) {b : List UInt8} (h : b.length ≤ 1000000) : rEl n m b = some (hdF m (b.length : Int) ++ b) := by
 unfold rEl
 have := hdF_len m (b.length : Int)
 rw [rHead_is n (by omega) (by omega), Option.bind_some, gd_pos (by unfold rmB; omega)]
theorem tup_is : tup 1100 = some true := by decide +kernel
theorem wh_all : ∀ i : Fin 256, (((UInt8.ofNat i.1 / 32) % 2) == 1) = ((UInt8.ofNat i.1 &&& 32) != 0) := by decide +kernel
theorem wh_eq (x : UInt8) : (((x / 32) % 2) == 1) = ((x &&& 32) != 0) := by simpa using wh_all ⟨x.toNat, x.toNat_lt⟩
def isWh (m : UInt8) : Bool := (m &&& 32) != 0
theorem tisW_is (n : Nat) (m : UInt8) : tisW n m = some (isWh m) := rfl
theorem rWhole_is (n : Nat) (m : UInt8) : rWhole n m = some (isWh m) := by unfold rWhole; rw [gd_pos (by decide), gd_pos (by decide), wh_eq]; rfl
theorem snoc_of_ne {α : Type} {l : List α} (h : l ≠ []) : ∃ l0 y, l = l0 ++ [y] := ⟨l.dropLast, l.getLast h, (List.dropLast_concat_getLast h).symm⟩
theorem rm1 {k : Nat} (h : k ≤ 1000000) : rmB k 1 := by unfold rmB; omega
theorem wadd_is (n : Nat) {d0 : List (UInt8 × List UInt8)} {m0 m : UInt8} {b0 b : List UInt8} (hm : (m % 32 != 31) = true) (hb : b.length ≤ 65535) (hb0 : b0.length ≤ 65535) (hd : d0.length ≤ 1000) :
  wadd n (d0 ++ [(m0, b0)]) none m b = some (d0 ++ [(m0, b0 ++ hdF m (b.length : Int) ++ b)], none) := by
 have hl : (d0 ++ [(m0, b0)]).length = d0.length + 1 := by simp
 have h4 := hdF_len m (b.length : Int)
 unfold wadd
 rw [tHead_is n hm (by omega) (by omega), Option.bind_some, ite_f (by rfl), hl, gd_pos (okI64 (by omega) (by omega)), gd_pos (by omega), gd_pos (by omega), lastS_app, Option.bind_some,
  gd_pos (by omega), gd_pos (by show _ = d0.length * 2 + 1; omega), gd_pos (rm1 (show b0.length + (hdF m (b.length : Int)).length ≤ 1000000 by omega)), gd_pos (rm1 (show (b0 ++ hdF m (b.length : Int)).length + b.length ≤ 1000000 by rw [List.length_append]; omega)), gd_pos (by omega), gd_pos (by show _ = d0.length * 2 + 1; omega)]
theorem radd_is (n : Nat) (ms : List UInt8) {c0 : List (List UInt8)} {m : UInt8} {b0 b : List UInt8} (hb : b.length ≤ 65535) (hb0 : b0.length ≤ 65535) (hd : c0.length ≤ 1000) :
  radd n ms (c0 ++ [b0]) 0 m b = some (c0 ++ [b0 ++ hdF m (b.length : Int) ++ b], 0) := by
 have hl : (c0 ++ [b0]).length = c0.length + 1 := by simp
 have h4 := hdF_len m (b.length : Int)
 unfold radd
 rw [ite_f (decide_eq_false (by omega)), hl, gd_pos (okI64 (by omega) (by omega)), lastS_app, Option.bind_some, gd_pos (by omega), gd_pos (by omega), gd_pos (by show _ = c0.length * 1 + 0; omega),
  rEl_is n m (by omega), Option.bind_some, gd_pos (rm1 (show b0.length + (hdF m (b.length : Int) ++ b).length ≤ 1000000 by rw [List.length_append]; omega)), gd_pos (by omega), gd_pos (by omega), gd_pos (by show _ = c0.length * 1 + 0; omega), List.append_assoc]
def tot (bs : List (List UInt8)) : Nat := (bs.map List.length).sum
theorem tot_app (a b : List (List UInt8)) : tot (a ++ b) = tot a + tot b := by simp [tot]
theorem tot_one (b : List UInt8) : tot [b] = b.length := by simp [tot]
def ErI (e : Option Int) (bad : Int) : Prop := (e = none ∧ bad = 0) ∨ ∃ k, e = some k ∧ bad = k ∧ (k = 1 ∨ k = 4 ∨ k = 5 ∨ k = 17)
structure WI (T : Nat) (d : List (UInt8 × List UInt8)) (e : Option Int) (ms : List UInt8) (bs : List (List UInt8)) (bad : Int) : Prop where
 hbs : bs = d.map (·.2)
 hms : d.map (·.1) = 0 :: ms
 va : ∀ m ∈ ms, (m % 32 != 31) = true
 er : ErI e bad
 tt : tot bs ≤ T
 lv : ms.length ≤ 24
section
variable {T n : Nat} {d : List (UInt8 × List UInt8)} {e : Option Int} {ms : List UInt8} {bs : List (List UInt8)} {bad : Int}
theorem WI.mono {T' : Nat} (h : WI T d e ms bs bad) (hT : T ≤ T') : WI T' d e ms bs bad := ⟨h.hbs, h.hms, h.va, h.er, Nat.le_trans h.tt hT, h.lv⟩
theorem WI.fault (h : WI T d none ms bs 0) {k : Int} (hk : k = 1 ∨ k = 4 ∨ k = 5 ∨ k = 17) : WI T d (some k) ms bs k := ⟨h.hbs, h.hms, h.va, .inr ⟨k, rfl, rfl, hk⟩, h.tt, h.lv⟩
theorem WI.len (h : WI T d e ms bs bad) : d.length = ms.length + 1 := by have := congrArg List.length h.hms; simpa using this
theorem WI.snoc (h : WI T d e ms bs bad) : ∃ d0 m0 b0, d = d0 ++ [(m0, b0)] ∧ bs = d0.map (·.2) ++ [b0] ∧ d0.length = ms.length ∧ b0.length ≤ T ∧ tot bs = tot (d0.map (·.2)) + b0.length := by
 have hl := h.len
 obtain ⟨d0, ⟨m0, b0⟩, rfl⟩ := snoc_of_ne (l := d) (fun hd => by rw [hd] at hl; simp at hl)
 have hb : bs = d0.map (·.2) ++ [b0] := by rw [h.hbs]; simp
 have ht : tot bs = tot (d0.map (·.2)) + b0.length := by rw [hb, tot_app, tot_one]
 exact ⟨d0, m0, b0, rfl, hb, by simpa using hl, by have := h.tt; omega, ht⟩
theorem put_is (h : WI T d e ms bs bad) (hT : T ≤ 60000) {m : UInt8} {b : List UInt8} (hb : b.length ≤ 300) : ∃ d' e' bs' bad', wPut n d e m b = some (d', e') ∧ rPut n ms bs bad m b = some (bs', bad') ∧ WI (T + 304) d' e' ms bs' bad' := by
 rcases h.er with ⟨rfl, rfl⟩ | ⟨k, rfl, rfl, hk⟩
 ·cases hm : (m % 32 != 31) with
  | false =>
   have e1 : wPut n d none m b = some (d, some 1) := by unfold wPut; rw [ite_f (by rfl), tvalid_is, hm]; rfl
   have e2 : rPut n ms bs 0 m b = some (bs, 1) := by unfold rPut; rw [ite_f (by rfl), rMark_is, hm]; rfl
   exact ⟨_, _, _, _, e1, e2, (h.fault (.inl rfl)).mono (by omega)⟩
  | true =>
   cases hw : isWh m with
   | true =>
    have e1 : wPut n d none m b = some (d, some 1) := by unfold wPut; rw [ite_f (by rfl), tvalid_is, hm, Option.bind_some, ite_f (by rfl), tisW_is, hw]; rfl
    have e2 : rPut n ms bs 0 m b = some (bs, 1) := by unfold rPut; rw [ite_f (by rfl), rMark_is, hm, Option.bind_some, ite_f (by rfl), rWhole_is, hw]; rfl
    exact ⟨_, _, _, _, e1, e2, (h.fault (.inl rfl)).mono (by omega)⟩
   | false =>
    obtain ⟨d0, m0, b0, rfl, hbs, hd0, hb0, ht⟩ := h.snoc
    have hlv := h.lv
    have e1 : wPut n (d0 ++ [(m0, b0)]) none m b = some (d0 ++ [(m0, b0 ++ hdF m (b.length : Int) ++ b)], none) := by
     unfold wPut; rw [ite_f (by rfl), tvalid_is, hm, Option.bind_some, ite_f (by rfl), tisW_is, hw, Option.bind_some, ite_f (by rfl), wadd_is n hm (by omega) (by omega) (by omega)]; rfl
    have e2 : rPut n ms bs 0 m b = some (d0.map (·.2) ++ [b0 ++ hdF m (b.length : Int) ++ b], 0) := by
     unfold rPut; rw [ite_f (by rfl), rMark_is, hm, Option.bind_some, ite_f (by rfl), rWhole_is, hw, Option.bind_some, ite_f (by rfl), hbs, radd_is n ms (by omega) (by omega) (by rw [List.length_map]; omega)]; rfl
    have hms := h.hms
    rw [List.map_append] at hms
    refine ⟨_, _, _, _, e1, e2, ⟨by rw [List.map_append]; rfl, by rw [List.map_append]; exact hms, h.va, .inl ⟨rfl, rfl⟩, ?_, h.lv⟩⟩
    have h4 := hdF_len m (b.length : Int)
    have htt := h.tt
    rw [tot_app, tot_one, List.length_append, List.length_append]
    omega
 ·have e1 : wPut n d (some bad) m b = some (d, some bad) := by unfold wPut; rw [ite_t (by rfl)]
  have e2 : rPut n ms bs bad m b = some (bs, bad) := by unfold rPut; rw [ite_t (by rcases hk with rfl | rfl | rfl | rfl <;> rfl)]
  exact ⟨_, _, _, _, e1, e2, h.mono (by omega)⟩
theorem open_is (h : WI T d e ms bs bad) {m : UInt8} : ∃ d' e' ms' bs' bad', wOpen n d e m = some (d', e') ∧ rOpen n ms bs bad m = some (ms', bs', bad') ∧ WI (T + 304) d' e' ms' bs' bad' := by
 rcases h.er with ⟨rfl, rfl⟩ | ⟨k, rfl, rfl, hk⟩
 ·cases hm : (m % 32 != 31) with
  | false =>
   have e1 : wOpen n d none m = some (d, some 1) := by unfold wOpen; rw [ite_f (by rfl), tvalid_is, hm]; rfl
   have e2 : rOpen n ms bs 0 m = some (ms, bs, 1) := by unfold rOpen; rw [ite_f (by rfl), rMark_is, hm]; rfl
   exact ⟨_, _, _, _, _, e1, e2, (h.fault (.inl rfl)).mono (by omega)⟩
  | true =>
   cases hw : isWh m with
   | false =>
    have e1 : wOpen n d none m = some (d, some 1) := by unfold wOpen; rw [ite_f (by rfl), tvalid_is, hm, Option.bind_some, ite_f (by rfl), tisW_is, hw]; rfl
    have e2 : rOpen n ms bs 0 m = some (ms, bs, 1) := by unfold rOpen; rw [ite_f (by rfl), rMark_is, hm, Option.bind_some, ite_f (by rfl), rWhole_is, hw]; rfl
    exact ⟨_, _, _, _, _, e1, e2, (h.fault (.inl rfl)).mono (by omega)⟩
   | true =>
    have hl := h.len
    have hlv := h.lv
    have hbl : bs.length = d.length := by rw [h.hbs, List.length_map]
    by_cases h24 : ms.length < 24
    ·have e1 : wOpen n d none m = some (d ++ [(m, [])], none) := by
      unfold wOpen; rw [ite_f (by rfl), tvalid_is, hm, Option.bind_some, ite_f (by rfl), tisW_is, hw, Option.bind_some, ite_f (by rfl), ite_f (decide_eq_false (by omega)), gd_pos (by unfold rmB; omega)]
     have e2 : rOpen n ms bs 0 m = some (ms ++ [m], bs ++ [[]], 0) := by
      unfold rOpen; rw [ite_f (by rfl), rMark_is, hm, Option.bind_some, ite_f (by rfl), rWhole_is, hw, Option.bind_some, ite_f (by rfl), ite_f (decide_eq_false (by omega)), gd_pos (by unfold rmB; omega), gd_pos (by unfold rmB; omega)]
     refine ⟨_, _, _, _, _, e1, e2, ⟨by rw [h.hbs, List.map_append]; rfl, by rw [List.map_append, h.hms]; rfl, fun x hx => ?_, .inl ⟨rfl, rfl⟩, ?_, by rw [List.length_append]; simp; omega⟩⟩
     ·rcases List.mem_append.1 hx with hx | hx
      ·exact h.va x hx
      ·rw [List.mem_singleton.1 hx]; exact hm
     ·have htt := h.tt
      rw [tot_app, tot_one]; simp; omega
    ·have e1 : wOpen n d none m = some (d, some 5) := by
      unfold wOpen; rw [ite_f (by rfl), tvalid_is, hm, Option.bind_some, ite_f (by rfl), tisW_is, hw, Option.bind_some, ite_f (by rfl), ite_t (decide_eq_true (by omega))]; rfl
     have e2 : rOpen n ms bs 0 m = some (ms, bs, 5) := by
      unfold rOpen; rw [ite_f (by rfl), rMark_is, hm, Option.bind_some, ite_f (by rfl), rWhole_is, hw, Option.bind_some, ite_f (by rfl), ite_t (decide_eq_true (by omega))]
     exact ⟨_, _, _, _, _, e1, e2, (h.fault (.inr (.inr (.inl rfl)))).mono (by omega)⟩
 ·have e1 : wOpen n d (some bad) m = some (d, some bad) := by unfold wOpen; rw [ite_t (by rfl)]
  have e2 : rOpen n ms bs bad m = some (ms, bs, bad) := by unfold rOpen; rw [ite_t (by rcases hk with rfl | rfl | rfl | rfl <;> rfl)]
  exact ⟨_, _, _, _, _, e1, e2, h.mono (by omega)⟩
theorem wClose_is (n : Nat) {d1 : List (UInt8 × List UInt8)} {m1 m : UInt8} {b1 b : List UInt8} (hm : (m % 32 != 31) = true) (hb : b.length ≤ 65535) (hb1 : b1.length ≤ 65535) (hd : d1.length ≤ 900) :
  wClose n ((d1 ++ [(m1, b1)]) ++ [(m, b)]) none = some (d1 ++ [(m1, b1 ++ hdF m (b.length : Int) ++ b)], none) := by
 have hL : ((d1 ++ [(m1, b1)]) ++ [(m, b)]).length = d1.length + 2 := by simp
 have hD : (d1 ++ [(m1, b1)]).length = d1.length + 1 := by simp
 unfold wClose
 rw [hL, ite_f (by rfl), ite_f (by rw [beq_eq_false_iff_ne]; omega), lastS_app, Option.bind_some, gd_pos (okI64 (by omega) (by omega)), gd_pos (by omega), gd_pos (by omega), gd_pos (by show _ = (d1 ++ [(m1, b1)]).length * 2; rw [hD]; omega),
  gd_pos (okI64 (by omega) (by omega)), gd_pos (by omega), gd_pos (by omega), gd_pos (by show _ = (d1 ++ [(m1, b1)]).length; rw [hD]; omega), wadd_is n hm (by omega) (by omega) (by omega)]
 rfl
theorem rClose_is (n : Nat) {ms' : List UInt8} {c1 : List (List UInt8)} {m : UInt8} {b1 b : List UInt8} (hb : b.length ≤ 65535) (hb1 : b1.length ≤ 65535) (hd : c1.length ≤ 900) (hl : c1.length = ms'.length) :
  rClose n (ms' ++ [m]) ((c1 ++ [b1]) ++ [b]) 0 = some (ms', c1 ++ [b1 ++ hdF m (b.length : Int) ++ b], 0) := by
 have hml : (ms' ++ [m]).length = ms'.length + 1 := by simp
 have hB : ((c1 ++ [b1]) ++ [b]).length = ms'.length + 2 := by simp [hl]
 have hC : (c1 ++ [b1]).length = ms'.length + 1 := by simp [hl]
 have eT : (((ms'.length + 1 : Nat) : Int) - 1).toNat = ms'.length := by omega
 have eg : (ms' ++ [m]).getD ms'.length 0 = m := by rw [List.getD_eq_getElem?_getD, List.getElem?_append_right (Nat.le_refl _)]; simp
 have et : (ms' ++ [m]).take ms'.length = ms' := List.take_left' rfl
 unfold rClose
 rw [hml, hB, ite_f (by rfl), ite_f (by rw [beq_eq_false_iff_ne]; omega), gd_pos (okI64 (by omega) (by omega)), gd_pos (by omega), gd_pos (by omega), lastS_app, Option.bind_some, gd_pos (by omega), gd_pos (by omega)]
 simp only [hC, eT]
 rw [gd_pos (by omega), gd_pos (okI64 (by omega) (by omega)), gd_pos (by omega), gd_pos (by omega), gd_pos (by omega), gd_pos (by omega), gd_pos (by omega), eg, et, radd_is n ms' (by omega) (by omega) (by omega)]
 rfl
theorem close_is (h : WI T d e ms bs bad) (hT : T ≤ 60000) : ∃ d' e' ms' bs' bad', wClose n d e = some (d', e') ∧ rClose n ms bs bad = some (ms', bs', bad') ∧ WI (T + 304) d' e' ms' bs' bad' := by
 rcases h.er with ⟨rfl, rfl⟩ | ⟨k, rfl, rfl, hk⟩
 ·have hl := h.len
  have hlv := h.lv
  by_cases h0 : ms.length = 0
  ·have e1 : wClose n d none = some (d, some 17) := by unfold wClose; rw [ite_f (by rfl), ite_t (by rw [hl, h0]; rfl)]; rfl
   have e2 : rClose n ms bs 0 = some (ms, bs, 17) := by unfold rClose; rw [ite_f (by rfl), ite_t (by rw [h0]; rfl)]
   exact ⟨_, _, _, _, _, e1, e2, (h.fault (.inr (.inr (.inr rfl)))).mono (by omega)⟩
  ·obtain ⟨d0, m, b, rfl, hbs, hd0, hb0, ht⟩ := h.snoc
   obtain ⟨d1, ⟨m1, b1⟩, rfl⟩ := snoc_of_ne (l := d0) (fun hd => by rw [hd] at hd0; exact h0 hd0.symm)
   obtain ⟨ms', hms, hms'⟩ : ∃ ms', ms = ms' ++ [m] ∧ (d1 ++ [(m1, b1)]).map (·.1) = 0 :: ms' := by
    have h1 := h.hms
    rw [List.map_append] at h1
    cases hq : (d1 ++ [(m1, b1)]).map (·.1) with
    | nil => simp at hq
    | cons a q =>
     rw [hq] at h1
     simp only [List.cons_append, List.map_cons, List.map_nil, List.cons.injEq] at h1
     exact ⟨q, h1.2.symm, by rw [h1.1]⟩
   subst hms
   have hvm : (m % 32 != 31) = true := h.va m (by simp)
   have hml : (ms' ++ [m]).length = ms'.length + 1 := by simp
   have hd1 : d1.length = ms'.length := by have := hd0; simp at this; omega
   have htb : tot (List.map (fun x => x.snd) (d1 ++ [(m1, b1)])) = tot (d1.map (·.2)) + b1.length := by rw [List.map_append, tot_app]; simp [tot]
   have htt := h.tt
   have e1 := wClose_is n (d1 := d1) (m1 := m1) (m := m) (b1 := b1) (b := b) hvm (by omega) (by omega) (by omega)
   have e2 : rClose n (ms' ++ [m]) bs 0 = some (ms', d1.map (·.2) ++ [b1 ++ hdF m (b.length : Int) ++ b], 0) := by
    rw [hbs, List.map_append]
    show rClose n (ms' ++ [m]) ((d1.map (·.2) ++ [b1]) ++ [b]) 0 = _
    exact rClose_is n (by omega) (by omega) (by rw [List.length_map]; omega) (by rw [List.length_map]; exact hd1)
   rw [List.map_append] at hms'
   refine ⟨_, _, _, _, _, e1, e2, ⟨by rw [List.map_append]; rfl, by rw [List.map_append]; exact hms', fun x hx => h.va x (List.mem_append_left _ hx), .inl ⟨rfl, rfl⟩, ?_, by omega⟩⟩
   have h4 := hdF_len m (b.length : Int)
   rw [tot_app, tot_one, List.length_append, List.length_append]
   omega
 ·have e1 : wClose n d (some bad) = some (d, some bad) := by unfold wClose; rw [ite_t (by rfl)]
  have e2 : rClose n ms bs bad = some (ms, bs, bad) := by unfold rClose; rw [ite_t (by rcases hk with rfl | rfl | rfl | rfl <;> rfl)]
  exact ⟨_, _, _, _, _, e1, e2, h.mono (by omega)⟩
theorem code1 : code 1100 (some 1) = some 1 := by decide +kernel
theorem code4 : code 1100 (some 4) = some 4 := by decide +kernel
theorem code5 : code 1100 (some 5) = some 5 := by decide +kernel
theorem code17 : code 1100 (some 17) = some 17 := by decide +kernel
theorem done_is (h : WI T d e ms bs bad) (hT : T ≤ 60000) : ∃ x c b0 b1 k c', wBytes n d e = some (d, e, x, c) ∧ rDone n ms bs bad = some (b0, b1, k, c') ∧ code 1100 c = some c' ∧ x = (b1.drop 0).take k ∧ b0 ++ [b1] = bs := by
 obtain ⟨d0, m0, b0, rfl, hbs, hd0, hb0, ht⟩ := h.snoc
 have hlv := h.lv
 have hL : (d0 ++ [(m0, b0)]).length = ms.length + 1 := by simp [hd0]
 rcases h.er with ⟨rfl, rfl⟩ | ⟨k, rfl, rfl, hk⟩
 ·by_cases h0 : ms.length = 0
  ·have hd : d0 = [] := List.eq_nil_of_length_eq_zero (by omega)
   subst hd
   have e1 : wBytes n ([] ++ [(m0, b0)]) none = some ([] ++ [(m0, b0)], none, b0, none) := by
    unfold wBytes; rw [ite_f (by rfl), hL, ite_f (decide_eq_false (by omega)), lastS_app, Option.bind_some, gd_pos (by omega), gd_pos (by omega), gd_pos (by omega), gd_pos (by rfl), gd_pos (by show b0.length ≤ _; omega)]
   have e2 : rDone n ms bs 0 = some ([], b0, b0.length, 0) := by
    unfold rDone; rw [hbs, lastS_app, Option.bind_some, ite_f (by rfl), ite_f (decide_eq_false (by omega)), gd_pos (by omega), gd_pos (by simp), gd_pos (by rfl)]; rfl
   exact ⟨_, _, _, _, _, _, e1, e2, rfl, by simp, hbs.symm⟩
  ·have e1 : wBytes n (d0 ++ [(m0, b0)]) none = some (d0 ++ [(m0, b0)], none, [], some 17) := by
    unfold wBytes; rw [ite_f (by rfl), hL, ite_t (decide_eq_true (by omega))]
   have e2 : rDone n ms bs 0 = some (d0.map (·.2), b0, 0, 17) := by
    unfold rDone; rw [hbs, lastS_app, Option.bind_some, ite_f (by rfl), ite_t (decide_eq_true (by omega))]
   exact ⟨_, _, _, _, _, _, e1, e2, code17, by simp, hbs.symm⟩
 ·have e1 : wBytes n (d0 ++ [(m0, b0)]) (some bad) = some (d0 ++ [(m0, b0)], some bad, [], some bad) := by unfold wBytes; rw [ite_t (by rfl)]
  have e2 : rDone n ms bs bad = some (d0.map (·.2), b0, 0, bad) := by
   unfold rDone; rw [hbs, lastS_app, Option.bind_some, ite_t (by rcases hk with rfl | rfl | rfl | rfl <;> rfl)]
  exact ⟨_, _, _, _, _, _, e1, e2, by rcases hk with rfl | rfl | rfl | rfl <;> first | exact code1 | exact code4 | exact code5 | exact code17, by simp, hbs.symm⟩
end
theorem tpick_is (n : Nat) (c : Int) (h0 : -9223372036854775808 ≤ c) (h1 : c ≤ 9223372036854775807) : ∃ r, tpick n c 3 = some r := by
 unfold tpick
 by_cases h : c < 0
 ·rw [ite_t (decide_eq_true h), gd_pos (okI64 (by omega) (by omega)), gd_pos (okI64 (by omega) (by omega))]
  unfold tpick_j1
  rw [gd_pos (by decide)]; exact ⟨_, rfl⟩
 ·rw [ite_f (decide_eq_false h)]
  unfold tpick_j1
  rw [gd_pos (by decide)]; exact ⟨_, rfl⟩
def SOk (a : List (Int × (UInt8 × List UInt8))) : Prop := ∀ x ∈ a, -9223372036854775808 ≤ x.1 ∧ x.1 ≤ 9223372036854775807
theorem writes_l1 {a : List (Int × (UInt8 × List UInt8))} (ha : SOk a) : ∀ (fu i : Nat) (d : List (UInt8 × List UInt8)) (e : Option Int) (ms : List UInt8) (bs : List (List UInt8)) (bad : Int), 80 < i + fu → i ≤ 80 → WI (304 * i) d e ms bs bad → lWrites_l1 1100 a true fu d e ms bs bad (i : Int) = some true
 | 0, i, d, e, ms, bs, bad, hf, hi, h => by omega
 | fu + 1, i, d, e, ms, bs, bad, hf, hi, h => by
  rw [lWrites_l1]
  by_cases h1 : i < a.length
  ·rw [ite_t (decide_eq_true (by omega))]
   by_cases h2 : i < 80
   ·rw [ite_t (decide_eq_true (by omega)), gd_pos (by omega), gd_pos (by omega)]
    have hn : ((i : Int)).toNat = i := by omega
    rw [hn]
    generalize hx : a.getD i (0, (0, [])) = x
    have hxa : x ∈ a := by rw [← hx, List.getD_eq_getElem?_getD, List.getElem?_eq_getElem h1]; exact List.getElem_mem h1
    have next : ∀ d e ms bs bad, WI (304 * (i + 1)) d e ms bs bad → lWrites_j1 1100 a true (i : Int) (lWrites_l1 1100 a true fu) d e ms bs bad = some true := fun d e ms bs bad hw => by
     unfold lWrites_j1
     rw [gd_pos (okI64 (by omega) (by omega))]
     exact writes_l1 ha fu (i + 1) d e ms bs bad (by omega) (by omega) hw
    have fin : ∀ d e ms bs bad, WI (304 * (i + 1)) d e ms bs bad → lWrites_j2 1100 a true (i : Int) (lWrites_l1 1100 a true fu) d e ms bs bad = some true := fun d e ms bs bad hw => by
     unfold lWrites_j2
     obtain ⟨y, c, b0, b1, k, c', e1, e2, e3, e4, e5⟩ := done_is (n := 1100) hw (by omega)
     rw [e1, Option.bind_some, e2, Option.bind_some]
     simp only
     rw [e3, Option.bind_some, ite_f (by simp), ite_f (by rw [e4]; simp), e5]
     exact next _ _ _ _ _ hw
    by_cases h3 : x.2.2.length ≤ 300
    ·rw [ite_f (decide_eq_false (by omega))]
     obtain ⟨r, hr⟩ := tpick_is 1100 x.1 (ha x hxa).1 (ha x hxa).2
     rw [hr, Option.bind_some]
     cases hr0 : (r == 0) with
     | true =>
      obtain ⟨d', e', bs', bad', e1, e2, hw⟩ := put_is (n := 1100) h (by omega) (m := x.2.1) h3
      rw [ite_t rfl, e1, Option.bind_some, e2, Option.bind_some]
      exact fin _ _ _ _ _ (hw.mono (by omega))
     | false =>
      rw [ite_f rfl]
      cases hr1 : (r == 1) with
      | true =>
       obtain ⟨d', e', ms', bs', bad', e1, e2, hw⟩ := open_is (n := 1100) h (m := x.2.1)
       rw [ite_t rfl, e1, Option.bind_some, e2, Option.bind_some]
       exact fin _ _ _ _ _ (hw.mono (by omega))
      | false =>
       obtain ⟨d', e', ms', bs', bad', e1, e2, hw⟩ := close_is (n := 1100) h (by omega)
       rw [ite_f rfl, e1, Option.bind_some, e2, Option.bind_some]
       exact fin _ _ _ _ _ (hw.mono (by omega))
    ·rw [ite_t (decide_eq_true (by omega))]
     exact next _ _ _ _ _ (h.mono (by omega))
   ·rw [ite_f (decide_eq_false (by omega))]
  ·rw [ite_f (decide_eq_false (by omega))]
theorem lWrites_is {a : List (Int × (UInt8 × List UInt8))} (ha : SOk a) : lWrites 1100 a = some true := by
 unfold lWrites
 rw [tup_is, Option.bind_some]
 show lWrites_l1 1100 a true 1100 ([] ++ [(0, [])]) none [] ([] ++ [[]]) 0 0 = some true
 exact writes_l1 ha 1100 0 [(0, [])] none [] [[]] 0 (by omega) (by omega) (show WI (304 * 0) [(0, [])] none [] [[]] 0 from ⟨rfl, rfl, fun m hm => (nomatch hm), .inl ⟨rfl, rfl⟩, by simp [tot], by simp⟩)
end Go.Sx
end
section
namespace Go.Sx
open Go Go.ChangeShapes Go.WideShapes Go.RowKit Go.Ch
def WfI (t : Int) : Prop := -9223372036854775808 ≤ t ∧ t ≤ 9223372036854775807
def WfL {α : Type} (p : α → Prop) (l : List α) : Prop := ∀ y ∈ l, p y
def bInt (P : Program) (k : IntKind) (t : TypeId) : Bool := match P.underlying t with | some (.int k') => decide (k' = k) | _ => false
def bSlI (P : Program) (k : IntKind) (t : TypeId) : Bool := match P.underlying t with | some (.slice e) => bInt P k e && P.cellsOf e == 1 | _ => false
def bSl (P : Program) (sz : Nat) (f : TypeId → Bool) (t : TypeId) : Bool := match P.underlying t with | some (.slice e) => P.cellsOf e == sz && f e | _ => false
def bF1 (P : Program) (sz : Nat) (f : TypeId → Bool) (fs : List Field) (off : Nat) : Bool := match fs with | [g] => g.offset == off && P.cellsOf g.type == sz && f g.type | _ => false
def bPr (P : Program) (sa : Nat) (f : TypeId → Bool) (g : List Field → Nat → Bool) (fs : List Field) (off : Nat) : Bool := match fs with | h :: r => h.offset == off && P.cellsOf h.type == sa && f h.type && g r (off + sa) | _ => false
def bSt (P : Program) (sz : Nat) (f : List Field → Nat → Bool) (t : TypeId) : Bool := match P.underlying t with | some (.struct fs) => P.cellsOf t == sz && f fs.toList 0 | _ => false
def WfD : (x : Dsh) → x.T → Prop
 | .i64, t => WfI t
 | .sl _ x, l => WfL (WfD x) l
 | .pr a b, t => WfD a t.1 ∧ WfD b t.2
 | .u8, _ => True
 | .u32, _ => True
 | .by _, _ => True
 | .wo _, _ => True
structure Shb where
 t : TypeId → Bool
 f : List Field → Nat → Bool
def shB1 (P : Program) (sz : Nat) (f : TypeId → Bool) : Shb := ⟨f, bF1 P sz f⟩
def shB (P : Program) : Dsh → Shb
 | .u8 => shB1 P 1 (bInt P .u8)
 | .u32 => shB1 P 1 (bInt P .u32)
 | .i64 => shB1 P 1 (bInt P .i64)
 | .by _ => shB1 P 1 (bSlI P .u8)
 | .wo _ => shB1 P 1 (bSlI P .u32)
 | .sl _ x => shB1 P 1 (bSl P x.sz (shB P x).t)
 | .pr a b => ⟨bSt P (a.sz + b.sz) (bPr P a.sz (shB P a).t (shB P b).f), bPr P a.sz (shB P a).t (shB P b).f⟩
section
variable {H : Type} {enc : TypeId × Value → H} {P : Program} {W : World} {base : Nat} {held : Bool}
def OpE (enc : TypeId × Value → H) (P : Program) (W : World) (base : Nat) (held : Bool) (x : Dsh) (t : TypeId) : Prop := ∀ (fuel : Nat) (cs : List Value) (y : DataW H × List MemPlace), DataW.trod enc P W base (fun _ => true) held fuel t cs = some y → ∃ v, RdE W x cs v ∧ WfD x v
theorem op_int {k : IntKind} {t : TypeId} (ht : P.underlying t = some (.int k)) {fuel : Nat} {cs : List Value} {y : DataW H × List MemPlace} (h : DataW.trod enc P W base (fun _ => true) held fuel t cs = some y) : ∃ n, cs = [.int k n] ∧ (Lit.int k n).wf = true := by
 obtain ⟨n, h1, _, h2⟩ := DataW.trod_int ht h
 exact ⟨n, h1, h2⟩
theorem op_u8 {t : TypeId} (ht : P.underlying t = some (.int .u8)) : OpE enc P W base held .u8 t := fun fuel cs y h => by
 obtain ⟨n, rfl, hw⟩ := op_int ht h
 refine ⟨UInt8.ofNat n.toNat, RdE.s1 (fun gv hg => ?_) rfl, True.intro⟩
 show gv _ = bU _
 rw [hg]
 simp [Lit.wf, IntKind.min, IntKind.max, IntKind.signed, IntKind.bits] at hw
 unfold bU
 congr 1
 simp
 omega
theorem op_u32 {t : TypeId} (ht : P.underlying t = some (.int .u32)) : OpE enc P W base held .u32 t := fun fuel cs y h => by
 obtain ⟨n, rfl, hw⟩ := op_int ht h
 obtain ⟨x, hx⟩ := u32_of_int hw
 exact ⟨x, RdE.s1 (fun gv hg => by show gv _ = w32 _; rw [hg, hx]) rfl, True.intro⟩
theorem op_i64 {t : TypeId} (ht : P.underlying t = some (.int .i64)) : OpE enc P W base held .i64 t := fun fuel cs y h => by
 obtain ⟨n, rfl, hw⟩ := op_int ht h
 exact ⟨n, RdE.s1 (fun gv hg => by show gv _ = _; rw [hg]) rfl, by simp [Lit.wf, IntKind.min, IntKind.max, IntKind.signed, IntKind.bits] at hw; exact ⟨by omega, by omega⟩⟩
theorem op_by {t e : TypeId} (e' : TypeId) (ht : P.underlying t = some (.slice e)) (he : P.underlying e = some (.int .u8)) (hc : P.cellsOf e = 1) : OpE enc P W base held (.by e') t := fun fuel cs y h => by
 rcases open_ints ht he hc h with ⟨rfl, _⟩ | ⟨x, l, c, zs, rfl, _, hl, hm, hz, _, hcell, hwz⟩
 ·exact ⟨[], RdE.by e' (sl_of_row (k := .u8) (w := W) (zs := []) (.inl ⟨rfl, rfl, rfl, rfl⟩)).1, True.intro⟩
 ·obtain ⟨h1, h2⟩ := sl_of_row (k := .u8) (w := W) (zs := zs) (.inr ⟨_, rfl, hl, hm, by simpa using hz, hcell, hwz⟩)
  obtain ⟨l, hl⟩ := bytes_of_ints h2
  exact ⟨l, RdE.by e' (by rw [← hl]; exact h1), True.intro⟩
theorem op_wo {t e : TypeId} (e' : TypeId) (ht : P.underlying t = some (.slice e)) (he : P.underlying e = some (.int .u32)) (hc : P.cellsOf e = 1) : OpE enc P W base held (.wo e') t := fun fuel cs y h => by
 rcases open_ints ht he hc h with ⟨rfl, _⟩ | ⟨x, l, c, zs, rfl, _, hl, hm, hz, _, hcell, hwz⟩
 ·exact ⟨[], RdE.wo e' (sl_of_row (k := .u32) (w := W) (zs := []) (.inl ⟨rfl, rfl, rfl, rfl⟩)).1, True.intro⟩
 ·obtain ⟨h1, h2⟩ := sl_of_row (k := .u32) (w := W) (zs := zs) (.inr ⟨_, rfl, hl, hm, by simpa using hz, hcell, hwz⟩)
  obtain ⟨l, hl, _⟩ := words_of_ints h2
  exact ⟨l, RdE.wo e' (by rw [← hl]; exact h1), True.intro⟩
def w2 (W : World) (a : Addr) (off n : Nat) (vs : List Value) : Prop := vs.length = n ∧ ∀ j u, vs[j]? = some u → W.cell? ((a.add off).add j) = some u
theorem w2_of {W : World} {base : Nat} {a : Addr} {off n : Nat} {vs : List Value} (h : W.cells? base (a.add off) n = some vs) : w2 W a off n vs := by
 obtain ⟨_, h1, h2⟩ := World.cells?_some h
 refine ⟨h1, fun j u hu => ?_⟩
 have hj : j < n := by rw [← h1]; exact (List.getElem?_eq_some_iff.1 hu).1
 rw [h2 j hj]; exact hu
theorem op_sl {t e : TypeId} {x : Dsh} (e' : TypeId) (ht : P.underlying t = some (.slice e)) (hc : P.cellsOf e = x.sz) (hx : OpE enc P W base held x e) : OpE enc P W base held (.sl e' x) t := fun fuel cs y h => by
 have hpos := x.sz_pos
 rcases DataW.trod_slice ht h with ⟨rfl, _⟩ | ⟨a, len, cap, elems, rest, n, rfl, rfl, _, hb, hl, hm, hlen, hel, _⟩
 ·refine ⟨([] : List x.T), RdE.sl0 e' (F := fun _ => False) (gv := fun _ => .slice none 0 0) rfl (fun g hg => hg.elim) ⟨none, 0, rfl, Nat.le_refl _, by simp [maxLen], fun _ => rfl, fun ad ha _ => (nomatch ha), fun k y hy => (nomatch hy)⟩, fun y hy => nomatch hy⟩
 ·have each : ∀ i, i < len → ∃ vs : List Value, w2 W a (i * x.sz) x.sz vs ∧ ∃ v, RdE W x vs v ∧ WfD x v := fun i hi => by
   have h1 := hel i hi
   rw [List.getElem?_eq_getElem (by omega), hc] at h1
   cases hcs : W.cells? base (a.add (i * x.sz)) x.sz with
   | none => rw [hcs] at h1; cases h1
   | some vs =>
    rw [hcs] at h1
    exact ⟨vs, w2_of hcs, hx n vs _ h1⟩
  have each' : ∀ i, ∃ p : List Value × x.T, i < len → w2 W a (i * x.sz) x.sz p.1 ∧ RdE W x p.1 p.2 ∧ WfD x p.2 := fun i => by
   by_cases hi : i < len
   ·obtain ⟨vs, h1, v, h2⟩ := each i hi
    exact ⟨(vs, v), fun _ => ⟨h1, h2⟩⟩
   ·exact ⟨([], x.df), fun h => absurd h hi⟩
  obtain ⟨pf, hpf⟩ := Classical.axiomOfChoice each'
  let l : List x.T := (List.range len).map fun i => (pf i).2
  have hll : l.length = len := by simp [l]
  let vs : List Value := (List.range (len * x.sz)).map fun j => (pf (j / x.sz)).1.getD (j % x.sz) undef
  have hvl : vs.length = len * x.sz := by simp [vs]
  have hvs : ∀ k g, k < len → g < x.sz → vs[k * x.sz + g]? = (pf k).1[g]? := fun k g hk hg => by
   have h1 : k * x.sz + g < len * x.sz := by
    have := Nat.mul_le_mul_right x.sz (show k + 1 ≤ len by omega)
    rw [Nat.add_mul, Nat.one_mul] at this; omega
   have e1 : (k * x.sz + g) / x.sz = k := by rw [Nat.add_comm, Nat.add_mul_div_right _ _ hpos, Nat.div_eq_of_lt hg, Nat.zero_add]
   have e2 : (k * x.sz + g) % x.sz = g := by rw [Nat.add_comm, Nat.add_mul_mod_self_right, Nat.mod_eq_of_lt hg]
   have hlen2 := ((hpf k hk).1).1
   show ((List.range (len * x.sz)).map fun j => (pf (j / x.sz)).1.getD (j % x.sz) undef)[k * x.sz + g]? = _
   rw [List.getElem?_map, List.getElem?_range h1]
   show some ((pf ((k * x.sz + g) / x.sz)).1.getD ((k * x.sz + g) % x.sz) undef) = _
   rw [e1, e2, List.getD_eq_getElem?_getD, List.getElem?_eq_getElem (by omega)]; rfl
  obtain ⟨F, gv, g1, g2, g3⟩ := DR.mk (w := W) (x := x) (l := l) (A := some a) (cap := cap) e' (by rw [hll]; exact hl) hm (fun h => nomatch h) vs (fun ad had j u hu => by
   injection had with had; subst had
   have hj : j < len * x.sz := by rw [← hvl]; exact (List.getElem?_eq_some_iff.1 hu).1
   have hk : j / x.sz < len := Nat.div_lt_of_lt_mul (by rw [Nat.mul_comm]; exact hj)
   have hg : j % x.sz < x.sz := Nat.mod_lt _ hpos
   have := hvs _ _ hk hg
   rw [Nat.div_add_mod'] at this
   rw [this] at hu
   have h3 := ((hpf _ hk).1).2 _ u hu
   rwa [add_add, Nat.div_add_mod'] at h3) (by rw [hvl, hll]) (fun k y hy => by
   have hk : k < len := by rw [← hll]; exact (List.getElem?_eq_some_iff.1 hy).1
   have hy' : y = (pf k).2 := by
    have : l[k]? = some y := hy
    simp only [l, List.getElem?_map, List.getElem?_range hk, Option.map_some, Option.some.injEq] at this
    exact this.symm
   subst hy'
   obtain ⟨F, gv, d1, d2, d3⟩ := (hpf k hk).2.1
   exact ⟨F, gv, fun g hg => by rw [d1 g hg, hvs k g hk hg], d2, d3⟩)
  exact ⟨l, RdE.sl0 e' (g1.trans (by rw [hll])) g2 g3, fun y hy => by
   obtain ⟨i, hi, rfl⟩ := List.mem_map.1 hy
   exact (hpf i (List.mem_range.1 hi)).2.2⟩
theorem op_struct {t : TypeId} {fs : Array Field} {x : Dsh} (ht : P.underlying t = some (.struct fs)) (hx : ∀ (cs : List Value), cs.length = P.cellsOf t → (∀ f ∈ fs.toList, ∃ n y, DataW.trod enc P W base (fun _ => true) held n f.type ((cs.drop f.offset).take (P.cellsOf f.type)) = some y) → ∃ v, RdE W x cs v ∧ WfD x v) : OpE enc P W base held x t := fun fuel cs y h => by
 obtain ⟨xs, n, _, _, hl, hxl, hel⟩ := DataW.trod_struct ht h
 refine hx cs hl fun f hf => ?_
 obtain ⟨i, hi⟩ := List.mem_iff_getElem?.1 hf
 have h1 := hel i f (by rw [← Array.getElem?_toList]; exact hi)
 have hlt : i < xs.length := by rw [hxl, ← Array.length_toList]; exact (List.getElem?_eq_some_iff.1 hi).1
 rw [List.getElem?_eq_getElem hlt] at h1
 exact ⟨n, _, h1⟩
def OpF (enc : TypeId × Value → H) (P : Program) (W : World) (base : Nat) (held : Bool) (x : Dsh) (fs : List Field) (off : Nat) : Prop := ∀ (cs : List Value), off + x.sz ≤ cs.length → (∀ f ∈ fs, ∃ n y, DataW.trod enc P W base (fun _ => true) held n f.type ((cs.drop f.offset).take (P.cellsOf f.type)) = some y) → ∃ v, RdE W x ((cs.drop off).take x.sz) v ∧ WfD x v
theorem op_f1 {x : Dsh} {f : Field} {off : Nat} (h1 : f.offset = off) (h2 : P.cellsOf f.type = x.sz) (hx : OpE enc P W base held x f.type) : OpF enc P W base held x [f] off := fun cs _ hf => by
 obtain ⟨n, y, h⟩ := hf f (by simp)
 rw [h1, h2] at h
 exact hx n _ y h
theorem op_f2 {a b : Dsh} {f : Field} {fs : List Field} {off : Nat} (h1 : f.offset = off) (h2 : P.cellsOf f.type = a.sz) (ha : OpE enc P W base held a f.type) (hb : OpF enc P W base held b fs (off + a.sz)) : OpF enc P W base held (.pr a b) (f :: fs) off := fun cs hl hf => by
 have hl' : off + (a.sz + b.sz) ≤ cs.length := hl
 obtain ⟨v, hv, wv⟩ := op_f1 h1 h2 ha cs (by omega) (fun g hg => hf g (by simp at hg; simp [hg]))
 obtain ⟨u, hu, wu⟩ := hb cs (by omega) (fun g hg => hf g (by simp [hg]))
 refine ⟨(v, u), RdE.pr ?_ ?_, wv, wu⟩
 ·rw [List.take_take]
  have : min a.sz (Dsh.pr a b).sz = a.sz := by show min a.sz (a.sz + b.sz) = _; omega
  rw [this]; exact hv
 ·rw [List.drop_take, List.drop_drop]
  have : (Dsh.pr a b).sz - a.sz = b.sz := by show a.sz + b.sz - a.sz = _; omega
  rw [this]; exact hu
structure OpOk (enc : TypeId × Value → H) (P : Program) (W : World) (base : Nat) (held : Bool) (x : Dsh) (s : Shb) : Prop where
 t : ∀ t, s.t t = true → OpE enc P W base held x t
 f : ∀ fs off, s.f fs off = true → OpF enc P W base held x fs off
theorem bInt_ok {k : IntKind} {t : TypeId} (h : bInt P k t = true) : P.underlying t = some (.int k) := by
 unfold bInt at h
 split at h
 ·rename_i k' hk; rw [hk, of_decide_eq_true h]
 ·cases h
theorem bSlI_ok {k : IntKind} {t : TypeId} (h : bSlI P k t = true) : ∃ e, P.underlying t = some (.slice e) ∧ P.underlying e = some (.int k) ∧ P.cellsOf e = 1 := by
 unfold bSlI at h
 split at h
 ·rename_i e he
  simp only [Bool.and_eq_true, beq_iff_eq] at h
  exact ⟨e, he, bInt_ok h.1, h.2⟩
 ·cases h
theorem op1 {x : Dsh} {f : TypeId → Bool} (hx : x.sz = 1) (h : ∀ t, f t = true → OpE enc P W base held x t) : OpOk enc P W base held x (shB1 P 1 f) := by
 refine ⟨h, fun fs off hf => ?_⟩
 have hf' : bF1 P 1 f fs off = true := hf
 unfold bF1 at hf'
 split at hf'
 ·simp only [Bool.and_eq_true, beq_iff_eq] at hf'
  exact op_f1 hf'.1.1 (hf'.1.2.trans hx.symm) (h _ hf'.2)
 ·cases hf'
theorem opPr {a b : Dsh} {s s' : Shb} (ha : OpOk enc P W base held a s) (hb : OpOk enc P W base held b s') (fs : List Field) (off : Nat) (h : bPr P a.sz s.t s'.f fs off = true) : OpF enc P W base held (.pr a b) fs off := by
 unfold bPr at h
 split at h
 ·simp only [Bool.and_eq_true, beq_iff_eq] at h
  exact op_f2 h.1.1.1 h.1.1.2 (ha.t _ h.1.2) (hb.f _ _ h.2)
 ·cases h
theorem opP2 {a b : Dsh} {s s' : Shb} (ha : OpOk enc P W base held a s) (hb : OpOk enc P W base held b s') : OpOk enc P W base held (.pr a b) ⟨bSt P (a.sz + b.sz) (bPr P a.sz s.t s'.f), bPr P a.sz s.t s'.f⟩ := by
 refine ⟨fun t h => ?_, fun fs off h => opPr ha hb fs off h⟩
 have h' : bSt P (a.sz + b.sz) (bPr P a.sz s.t s'.f) t = true := h
 unfold bSt at h'
 split at h'
 ·rename_i fs ht
  simp only [Bool.and_eq_true, beq_iff_eq] at h'
  refine op_struct ht fun cs hl hf => ?_
  have := opPr ha hb _ 0 h'.2 cs (by show 0 + (a.sz + b.sz) ≤ _; omega) hf
  rw [List.drop_zero, List.take_of_length_le (by rw [hl, h'.1]; exact Nat.le_refl _)] at this
  exact this
 ·cases h'
theorem op_of : ∀ (x : Dsh), OpOk enc P W base held x (shB P x)
 | .u8 => op1 rfl fun _ h => op_u8 (bInt_ok h)
 | .u32 => op1 rfl fun _ h => op_u32 (bInt_ok h)
 | .i64 => op1 rfl fun _ h => op_i64 (bInt_ok h)
 | .by e => op1 rfl fun _ h => by obtain ⟨_, h1, h2, h3⟩ := bSlI_ok h; exact op_by e h1 h2 h3
 | .wo e => op1 rfl fun _ h => by obtain ⟨_, h1, h2, h3⟩ := bSlI_ok h; exact op_wo e h1 h2 h3
 | .sl e x => op1 rfl fun _ h => by
  unfold bSl at h
  split at h
  ·rename_i ht
   simp only [Bool.and_eq_true, beq_iff_eq] at h
   exact op_sl e ht h.1 ((op_of x).t _ h.2)
  ·cases h
 | .pr a b => opP2 (op_of a) (op_of b)
theorem open_deep {x : Dsh} {e t : TypeId} {v : Value} {d : DataW H} {p : List MemPlace} (hb : (shB P (.sl e x)).t t = true) (hv : v.cells = #[v]) (h : DataW.Trod enc P W base (fun _ => true) held t v d p) :
  ∃ (l : List x.T) (q : Pl), v = .slice q.A q.n q.cap ∧ (∀ ρ, objR ρ W q ⟨.dp false, e, x.sz, l.length, .d x l⟩) ∧ ∀ y ∈ l, WfD x y := by
 obtain ⟨m, hm⟩ := h
 rw [hv] at hm
 obtain ⟨l, hl, hw⟩ := (op_of (enc := enc) (P := P) (W := W) (base := base) (held := held) (.sl e x)).t t hb m _ _ hm
 obtain ⟨q, h1, h2⟩ := RdE.root (fun _ h => h) hl e
 exact ⟨l, q, h1, h2, hw⟩
end
end Go.Sx
end
section
namespace Go.Sx
open Go Go.RowKit Go.Ch Go.Proofs.Ytcdljciflkefaaa
end Go.Sx
namespace Go.Proofs.Ytcdljciflkefaaa
open Go.RowKit Go.Ch Go.Sx
theorem tlvWrites_c (w : World) (v0 : Value) (l0 : List (Int × (UInt8 × List UInt8))) (q0 : Pl) (hq0 : v0 = .slice q0.A q0.n q0.cap) (ho0 : ∀ ρ, objR ρ w q0 ⟨.dp false, 38, 3, l0.length, .d (.pr .i64 (.pr .u8 (.by 5))) l0⟩) (hw0 : ∀ y ∈ l0, WfD (.pr .i64 (.pr .u8 (.by 5))) y) :
  Calls Try.prog 4 #[v0] w (Ret fun v' w' => Ext w w' ∧ v' = .bool true) := by
 exact law_of (lWrites_ok 1100 true) (args := [.c (.wh 0)]) (H := [⟨.dp false, 38, 3, l0.length, .d (.pr .i64 (.pr .u8 (.by 5))) l0⟩]) (ρ := plL [q0]) (vals := [v0]) rfl (allP_cons.2 ⟨(lWrites_is (fun x hx => (hw0 x hx).1)), allP_nil⟩) trivial (hpL (ps := [q0]) (F2.cons ho0 F2.nil)) (F2.cons hq0 F2.nil)
end Go.Proofs.Ytcdljciflkefaaa
end
