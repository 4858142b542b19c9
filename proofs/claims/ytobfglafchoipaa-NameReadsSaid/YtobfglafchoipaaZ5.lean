import Derived.Test.YtobfglafchoipaaZ4
import Derived.Test.YtobfglafchoipaaProg
import Derived.WalkKit
import Derived.Lib.Walk
import Derived.Lib.Strings
import Derived.Lib.Bytealg
import Derived.Lib.BytesEntry
import Derived.BigCall
import Derived.Shelf.RegionOpenPlain
import Derived.Lib.SliceRun
import Derived.Lib.AppendZerosOnto
set_option linter.unusedVariables false
set_option linter.unusedSimpArgs false
section
namespace Go.Proofs.Ytobfglafchoipaa
open Go.RowKit Go.Ch Go.Sx Go.Lib Go.Proofs
theorem bytesOf_sl {P : Program} (w : World) {B : Nat} {v : Value} {l : List UInt8} (hv : Sl w B v (l.map bU)) : (Extern.Bytes.bytesOf v).run P w = .ok ⟨l.toArray⟩ w := by
 obtain ⟨_, A, c, rfl, _, _, _, h4⟩ := hv
 cases A with
 | none =>
  have hl : l = [] := by
   cases l with
   | nil => rfl
   | cons x l => have h1 := ‹(List.map bU (x :: l)).length ≤ c›; have h2 := ‹(none : Option Addr) = none → c = 0› rfl; simp at h1; omega
  subst hl
  simp [Extern.Bytes.bytesOf]; rfl
 | some a =>
  have e : l.map bU = (l.map fun x => ((x.toNat : Nat) : Int)).map (Value.int .u8) := by simp [bU, Function.comp_def]
  have h := run_loadBytesX (P := P) w (l.map fun x => ((x.toNat : Nat) : Int)) a .empty (fun j x hx => (h4 a rfl j _ (by rw [e, List.getElem?_map, hx]; rfl)).2)
  simp only [Extern.Bytes.bytesOf, List.length_map] at h ⊢
  rw [h]
  congr 1
  apply ByteArray.ext
  have e2 : Go.Lib.bytesOf (l.map fun x => ((x.toNat : Nat) : Int)) = l := by
   unfold Go.Lib.bytesOf
   rw [List.map_map]
   conv => rhs; rw [← List.map_id l]
   apply List.map_congr_left; intro x _; simp
  rw [e2]
  simp
set_option maxHeartbeats 1000000 in
set_option maxRecDepth 100000 in
theorem cmp_c (w : World) (B0 B1 : Nat) (v0 v1 : Value) (l0 l1 : List UInt8) (h0 : Sl w B0 v0 (l0.map bU)) (h1 : Sl w B1 v1 (l1.map bU)) :
  Calls Try.prog 27 #[v0, v1] w (Ret fun v w' => Ext w w' ∧ v = .int .i64 (Lib.compareBytes l0 l1)) := by
 go_enter Try.func27, Try.ntmps27
 go_wp2
 rw [run_callFunc_extern Try.func47 (by kernel_rfl) (by kernel_rfl) (by kernel_rfl) (e := Extern.BytealgCompare.compare) (by kernel_rfl)]
 have hr : (Extern.BytealgCompare.compare #[v0, v1]).run Try.prog w = .ok (.int .i64 (Lib.compareBytes l0 l1)) w := by
  change Sem.run Try.prog (do pure (goInt (Extern.BytealgCompare.cmp (← Extern.Bytes.bytesOf v0) (← Extern.Bytes.bytesOf v1)))) w = _
  simp only [Sem.run_bind, bytesOf_sl w h0, bytesOf_sl w h1, Sem.run_pure, Result.andThen]
  rw [cmp_eq]
  rfl
 rw [hr]
 simp only [Result.andThen]
 rw [Oper.upon_value]
 go_wp2
 go_ret
 exact ⟨_, rfl, Below.refl _ _, rfl⟩
def cmp_ct : Ct := ctc aB fun _ l0 => ctc aB fun _ l1 => ct0 fun _ => ([], kI (Lib.compareBytes l0 l1), [])
theorem cmp_h : FnOk Try.prog Tr 27 cmp_ct := by
 refine ⟨fun args H g av objs hF hg ρ w vals hG hp ha => ?_, _, Try.func27, by kernel_rfl, by kernel_rfl⟩
 obtain ⟨x0, _, l0, rfl, e0, hF⟩ := ctc_inv hF
 obtain ⟨x1, _, l1, rfl, e1, hF⟩ := ctc_inv hF
 obtain ⟨rfl, rfl, rfl, rfl⟩ := ct0_inv hF
 obtain ⟨v0, vals, rfl, k0, ha⟩ := F2.inv ha
 obtain ⟨v1, vals, rfl, k1, ha⟩ := F2.inv ha
 obtain rfl := F2.inv0 ha
 obtain ⟨p0, hI0⟩ := aB_ok hp e0 k0 5
 obtain ⟨p1, hI1⟩ := aB_ok hp e1 k1 5
 exact calls_mono (cmp_c w _ _ v0 v1 l0 l1 (hI0.sl (fun _ _ h => csR_b.1 h) (by simp)) (hI1.sl (fun _ _ h => csR_b.1 h) (by simp))) fun v w' ⟨hx, hv⟩ => ⟨hx, left_val fun ρ => hv⟩
end Go.Proofs.Ytobfglafchoipaa
end
section
namespace Go.Proofs.Ytobfglafchoipaa
open Go.RowKit Go.Ch Go.Sx
def tabL_nma : List (TypeId × Ti) := [(3, ⟨.int .i64, 1, 8, true, some [.int .i64]⟩),
 (5, ⟨.int .u8, 1, 1, true, some [.int .u8]⟩),
 (9, ⟨.str, 1, 16, true, some [.str]⟩),
 (22, ⟨.sl 5, 1, 24, false, some [.nils]⟩),
 (27, ⟨.sl 47, 1, 24, false, some [.nils]⟩),
 (32, ⟨.ifc, 1, 16, true, some [.ifc]⟩),
 (38, ⟨.int .i64, 1, 8, true, some [.int .i64]⟩),
 (44, ⟨.sl 92, 1, 24, false, some [.nils]⟩),
 (46, ⟨.st [(44, 0), (5, 1), (22, 2)], 3, 56, false, some [.nils, .int .u8, .nils]⟩),
 (47, ⟨.sl 46, 1, 24, false, some [.nils]⟩),
 (92, ⟨.int .u32, 1, 4, true, some [.int .u32]⟩)]
def tab_nma : Tab := fun t => (tabL_nma).lookup t
theorem tabE_nma : (tabL_nma.map fun p => tiOf Try.prog p.1) = tabL_nma.map fun p => some p.2 := by kernel_rfl
theorem tabO_nma : TabOk Try.prog tab_nma := tab_of tabE_nma
def nAttr (n : Nat) (a0_0 : List UInt32) (a0_1 : UInt8) (a0_2 : List UInt8) : Option (List UInt8 × Option Int) :=
 (pOid n a0_0).bind fun r10 =>
 bif (!((r10.2).isNone)) then
  some ([], (some 1))
 else
  bif (a0_1 != 12) then
   bif (a0_1 != 19) then
    some ([], (some 1))
   else
    bif (decide (((a0_2.length : Nat) : Int) < (1 : Int))) then
     some ([], (some 1))
    else
     bif (decide ((64 : Int) < ((a0_2.length : Nat) : Int))) then
      some ([], (some 1))
     else
      (pText n a0_1 a0_2).bind fun r42 =>
      bif (!((r42).isNone)) then
       some ([], (some 1))
      else
       (wNew n).bind fun r46 =>
       (wOpen1 n 0 [] 48).bind fun r48 =>
       (wPut2 n 0 [] 48 [] 6 r10.1).bind fun r51 =>
       (wPut2 n 0 [] 48 r51 a0_1 a0_2).bind fun r57 =>
       (wClose2 n 0 [] 48 r57).bind fun r59 =>
       (wBytes1 n 0 r59).bind fun r61 =>
       some (r59, none)
  else
   bif (decide (((a0_2.length : Nat) : Int) < (1 : Int))) then
    some ([], (some 1))
   else
    bif (decide ((64 : Int) < ((a0_2.length : Nat) : Int))) then
     some ([], (some 1))
    else
     (pText n a0_1 a0_2).bind fun r42 =>
     bif (!((r42).isNone)) then
      some ([], (some 1))
     else
      (wNew n).bind fun r46 =>
      (wOpen1 n 0 [] 48).bind fun r48 =>
      (wPut2 n 0 [] 48 [] 6 r10.1).bind fun r51 =>
      (wPut2 n 0 [] 48 r51 a0_1 a0_2).bind fun r57 =>
      (wClose2 n 0 [] 48 r57).bind fun r59 =>
      (wBytes1 n 0 r59).bind fun r61 =>
      some (r59, none)
def nWrite_l2 (n : Nat) (a0 : List (List (List UInt32 × (UInt8 × List UInt8)))) (l4_1 : List UInt8) (i23_1 : Int) (k_l1 : (List UInt8) → Int → Option (List UInt8 × Option Int)) : Nat → List UInt8 → List UInt8 → Int → Option (List UInt8 × Option Int)
 | 0, _, _, _ => none
 | fu_l2 + 1, l7_5, l8_5, i38_5 =>
  bif (decide (i38_5 < (((a0.getD i23_1.toNat []).length : Nat) : Int))) then
   gd (0 ≤ i38_5) <|
   gd (i38_5 < (((a0.getD i23_1.toNat []).length : Nat) : Int)) <|
   (nAttr n (((a0.getD i23_1.toNat []).getD i38_5.toNat ([], (0, []))).1) (((a0.getD i23_1.toNat []).getD i38_5.toNat ([], (0, []))).2.1) (((a0.getD i23_1.toNat []).getD i38_5.toNat ([], (0, []))).2.2)).bind fun r45_8 =>
   bif (!((r45_8.2).isNone)) then
    some ([], (some 1))
   else
    bif (decide ((0 : Int) < i38_5)) then
     bif (decide ((0 : Int) ≤ (Lib.compareBytes l8_5 r45_8.1))) then
      some ([], (some 1))
     else
      gd (rmB (l7_5.length + r45_8.1.length) 1) <|
      gd (okI .i64 (i38_5 + 1)) <|
      (nWrite_l2 n a0 l4_1 i23_1 k_l1 fu_l2) (l7_5 ++ r45_8.1) r45_8.1 (i38_5 + 1)
    else
     gd (rmB (l7_5.length + r45_8.1.length) 1) <|
     gd (okI .i64 (i38_5 + 1)) <|
     (nWrite_l2 n a0 l4_1 i23_1 k_l1 fu_l2) (l7_5 ++ r45_8.1) r45_8.1 (i38_5 + 1)
  else
   (tHead n 49 ((l7_5.length : Nat) : Int)).bind fun r69_5 =>
   bif (!((r69_5.2).isNone)) then
    some ([], (some 1))
   else
    gd (rmB (l4_1.length + r69_5.1.length) 1) <|
    gd (rmB (((l4_1 ++ r69_5.1).length) + l7_5.length) 1) <|
    gd (okI .i64 (i23_1 + 1)) <|
    k_l1 ((l4_1 ++ r69_5.1) ++ l7_5) (i23_1 + 1)
def nWrite_l1 (n : Nat) (a0 : List (List (List UInt32 × (UInt8 × List UInt8)))) : Nat → List UInt8 → Int → Option (List UInt8 × Option Int)
 | 0, _, _ => none
 | fu_l1 + 1, l4_1, i23_1 =>
  bif (decide (i23_1 < ((a0.length : Nat) : Int))) then
   gd (0 ≤ i23_1) <|
   gd (i23_1 < ((a0.length : Nat) : Int)) <|
   bif (decide ((((a0.getD i23_1.toNat []).length : Nat) : Int) < (1 : Int))) then
    some ([], (some 1))
   else
    bif (decide ((4 : Int) < (((a0.getD i23_1.toNat []).length : Nat) : Int))) then
     some ([], (some 1))
    else
     nWrite_l2 n a0 l4_1 i23_1 (nWrite_l1 n a0 fu_l1) n [] [] 0
  else
   (tHead n 48 ((l4_1.length : Nat) : Int)).bind fun r84_1 =>
   bif (!((r84_1.2).isNone)) then
    some ([], (some 1))
   else
    gd (rmB (r84_1.1.length + l4_1.length) 1) <|
    some ((r84_1.1 ++ l4_1), none)
def nWrite (n : Nat) (a0 : List (List (List UInt32 × (UInt8 × List UInt8)))) : Option (List UInt8 × Option Int) :=
 bif (decide ((8 : Int) < ((a0.length : Nat) : Int))) then
 some ([], (some 1))
 else
 nWrite_l1 n a0 n [] 0
def nCheck (n : Nat) (a0 : List (List (List UInt32 × (UInt8 × List UInt8)))) : Option (Option Int) :=
 (nWrite n a0).bind fun r7 =>
 some r7.2
def rMark (n : Nat) (a0 : UInt8) : Option (Bool) :=
 gd ((32 : UInt8) ≠ 0) <|
 some ((a0 % (32 : UInt8)) != 31)
def rHead (n : Nat) (a0 : UInt8) (a1 : Int) : Option (List UInt8) :=
 bif (decide (a1 < (128 : Int))) then
 some [a0, (UInt8.ofInt a1)]
 else
 bif (decide (a1 < (256 : Int))) then
 some [a0, 129, (UInt8.ofInt a1)]
 else
 gd ((256 : Int) ≠ 0) <|
 gd (okI .i64 (Int.tdiv a1 256)) <|
 gd ((256 : Int) ≠ 0) <|
 some [a0, 130, (UInt8.ofInt (Int.tdiv a1 256)), (UInt8.ofInt (Int.tmod a1 256))]
def rEl (n : Nat) (a0 : UInt8) (a1 : List UInt8) : Option (List UInt8) :=
 (rHead n a0 ((a1.length : Nat) : Int)).bind fun r8 =>
 gd (rmB (r8.length + a1.length) 1) <|
 some (r8 ++ a1)
def rAttr (n : Nat) (a0_0 : List UInt32) (a0_1 : UInt8) (a0_2 : List UInt8) : Option (List UInt8 × Bool) :=
 bif (a0_1 != 12) then
  bif (a0_1 != 19) then
   some ([], false)
  else
   bif (decide (((a0_2.length : Nat) : Int) < (1 : Int))) then
    some ([], false)
   else
    bif (decide ((64 : Int) < ((a0_2.length : Nat) : Int))) then
     some ([], false)
    else
     (rOid n a0_0).bind fun r27 =>
     bif (!r27) then
      some ([], false)
     else
      (rText n a0_1 a0_2).bind fun r34 =>
      bif (!r34) then
       some ([], false)
      else
       (rOidBody n a0_0).bind fun r39 =>
       (rEl n 6 r39).bind fun r40 =>
       (rEl n a0_1 a0_2).bind fun r45 =>
       gd (rmB (r40.length + r45.length) 1) <|
       (rEl n 48 (r40 ++ r45)).bind fun r48 =>
       some (r48, true)
 else
  bif (decide (((a0_2.length : Nat) : Int) < (1 : Int))) then
   some ([], false)
  else
   bif (decide ((64 : Int) < ((a0_2.length : Nat) : Int))) then
    some ([], false)
   else
    (rOid n a0_0).bind fun r27 =>
    bif (!r27) then
     some ([], false)
    else
     (rText n a0_1 a0_2).bind fun r34 =>
     bif (!r34) then
      some ([], false)
     else
      (rOidBody n a0_0).bind fun r39 =>
      (rEl n 6 r39).bind fun r40 =>
      (rEl n a0_1 a0_2).bind fun r45 =>
      gd (rmB (r40.length + r45.length) 1) <|
      (rEl n 48 (r40 ++ r45)).bind fun r48 =>
      some (r48, true)
def rWrite_l2 (n : Nat) (a0 : List (List (List UInt32 × (UInt8 × List UInt8)))) (l4_1 : List UInt8) (i5_1 : Int) (k_l1 : (List UInt8) → Int → Option (List UInt8 × Bool)) : Nat → List UInt8 → List UInt8 → Int → Option (List UInt8 × Bool)
 | 0, _, _, _ => none
 | fu_l2 + 1, l6_5, l7_5, i8_5 =>
  gd (0 ≤ i5_1) <|
  gd (i5_1 < ((a0.length : Nat) : Int)) <|
  bif (decide (i8_5 < (((a0.getD i5_1.toNat []).length : Nat) : Int))) then
   gd (0 ≤ i5_1) <|
   gd (i5_1 < ((a0.length : Nat) : Int)) <|
   gd (0 ≤ i8_5) <|
   gd (i8_5 < (((a0.getD i5_1.toNat []).length : Nat) : Int)) <|
   (rAttr n (((a0.getD i5_1.toNat []).getD i8_5.toNat ([], (0, []))).1) (((a0.getD i5_1.toNat []).getD i8_5.toNat ([], (0, []))).2.1) (((a0.getD i5_1.toNat []).getD i8_5.toNat ([], (0, []))).2.2)).bind fun r51_8 =>
   bif (!r51_8.2) then
    some ([], false)
   else
    bif (decide ((0 : Int) < i8_5)) then
     bif (!Op.bytesLess l7_5 r51_8.1) then
      some ([], false)
     else
      gd (rmB (l6_5.length + r51_8.1.length) 1) <|
      gd (okI .i64 (i8_5 + 1)) <|
      (rWrite_l2 n a0 l4_1 i5_1 k_l1 fu_l2) (l6_5 ++ r51_8.1) r51_8.1 (i8_5 + 1)
    else
     gd (rmB (l6_5.length + r51_8.1.length) 1) <|
     gd (okI .i64 (i8_5 + 1)) <|
     (rWrite_l2 n a0 l4_1 i5_1 k_l1 fu_l2) (l6_5 ++ r51_8.1) r51_8.1 (i8_5 + 1)
  else
   (rEl n 49 l6_5).bind fun r73_5 =>
   gd (rmB (l4_1.length + r73_5.length) 1) <|
   gd (okI .i64 (i5_1 + 1)) <|
   k_l1 (l4_1 ++ r73_5) (i5_1 + 1)
def rWrite_l1 (n : Nat) (a0 : List (List (List UInt32 × (UInt8 × List UInt8)))) : Nat → List UInt8 → Int → Option (List UInt8 × Bool)
 | 0, _, _ => none
 | fu_l1 + 1, l4_1, i5_1 =>
  bif (decide (i5_1 < ((a0.length : Nat) : Int))) then
   gd (0 ≤ i5_1) <|
   gd (i5_1 < ((a0.length : Nat) : Int)) <|
   bif (decide ((((a0.getD i5_1.toNat []).length : Nat) : Int) < (1 : Int))) then
    some ([], false)
   else
    gd (0 ≤ i5_1) <|
    gd (i5_1 < ((a0.length : Nat) : Int)) <|
    bif (decide ((4 : Int) < (((a0.getD i5_1.toNat []).length : Nat) : Int))) then
     some ([], false)
    else
     rWrite_l2 n a0 l4_1 i5_1 (rWrite_l1 n a0 fu_l1) n [] ([] : List UInt8) 0
  else
   (rEl n 48 l4_1).bind fun r76_1 =>
   some (r76_1, true)
def rWrite (n : Nat) (a0 : List (List (List UInt32 × (UInt8 × List UInt8)))) : Option (List UInt8 × Bool) :=
 bif (decide ((8 : Int) < ((a0.length : Nat) : Int))) then
 some ([], false)
 else
 rWrite_l1 n a0 n [] 0
def nAttr_R (r : List UInt8 × Option Int) : S := ⟨[(2, kH 0), (3, kE 38 r.2)], [], [nb 5 r.1]⟩
def nAttr_ct (n : Nat) (r : List UInt8 × Option Int) : Ct := ctc (rSt (lC (cW 92) (lC cU8 (lC (cB 5) lN)))).rd fun _ y0 => ct0 fun H => ([nAttr n y0.1 y0.2.1 y0.2.2.1 = some r], shA H.length (.t [.c (.wh 0), .c (.s (.er 38 .i64 r.2))]), shH H.length [nb 5 r.1])
theorem nAttr_ok (n : Nat) (r : List UInt8 × Option Int) : FnOk Try.prog Tr 26 (nAttr_ct n r) := by
 refine fnok Try.func26 ?_
 refine HO_c (rSt (lC (cW 92) (lC cU8 (lC (cB 5) lN)))) fun p0 _ => ?_
 obtain ⟨l0_0, l0_1, l0_2, _⟩ := p0
 refine HO_0 tabO_nma (nAttr_R r) [.tmp 2, .tmp 3] [0] 64 Try.func26 fun w hG h => ?_
 have h : nAttr n l0_0 l0_1 l0_2 = some r := h
 unfold nAttr at h
 have hT := tabO_nma
 refine Vrs hT [2, 0, 1] ⟨[(1, kP 0 0)], [], [⟨.blk, 46, 1, 3, .c [.wh 1, .s (.u8 l0_1), .wh 2]⟩, ow 92 l0_0, ob 5 l0_2]⟩ ?_
 obtain ⟨r10, g1, h⟩ := bind_some' h
 refine Vgs hT (fT 2 (pOid_ok n r10) fN) [] [] [0, 1, 2, 3] ⟨[(1, kP 0 0), (4, kH 3), (5, kE 38 r10.2)], [], [⟨.blk, 46, 1, 3, .c [.wh 1, .s (.u8 l0_1), .wh 2]⟩, ow 92 l0_0, ob 5 l0_2, nb 5 r10.1]⟩ (aP g1 aN) ?_
 refine W_seq ?_
 refine W_seq ?_
 rcases Bool.eq_false_or_eq_true (!((r10.2).isNone)) with g2 | g2
 ·replace h := bif_t h g2
  refine Vg hT fN [(2, true)] [] [0, 1, 2, 3] ⟨[(1, kP 0 0), (4, kH 3), (44, kB true)], [], [⟨.blk, 46, 1, 3, .c [.wh 1, .s (.u8 l0_1), .wh 2]⟩, ow 92 l0_0, ob 5 l0_2, nb 5 r10.1]⟩ (aP g2 aN) ?_
  refine Vi (true) (fun _ => ?_) (fun hb => by cases hb)
  refine Vrs hT [] ⟨[(2, .c (.nils)), (3, kE 38 (some 1))], [], []⟩ ?_
  refine Vc [.nil 2 5 1 (.b [])] [0] (nAttr_R ([], (some 1))) (W_ret ?_)
  exact ⟨.inl rfl, by cases h; rfl⟩
 ·replace h := bif_f h g2
  rcases Bool.eq_false_or_eq_true (l0_1 != 12) with g3 | g3
  ·replace h := bif_t h g3
   rcases Bool.eq_false_or_eq_true (l0_1 != 19) with g4 | g4
   ·replace h := bif_t h g4
    refine Vg hT fN [(2, false), (6, true), (12, true)] [] [0, 1, 2, 3] ⟨[(1, kP 0 0), (4, kH 3), (44, kB true)], [], [⟨.blk, 46, 1, 3, .c [.wh 1, .s (.u8 l0_1), .wh 2]⟩, ow 92 l0_0, ob 5 l0_2, nb 5 r10.1]⟩ (aP g2 (aP g3 (aP g4 aN))) ?_
    refine Vi (true) (fun _ => ?_) (fun hb => by cases hb)
    refine Vrs hT [] ⟨[(2, .c (.nils)), (3, kE 38 (some 1))], [], []⟩ ?_
    refine Vc [.nil 2 5 1 (.b [])] [0] (nAttr_R ([], (some 1))) (W_ret ?_)
    exact ⟨.inl rfl, by cases h; rfl⟩
   ·replace h := bif_f h g4
    rcases Bool.eq_false_or_eq_true (decide (((l0_2.length : Nat) : Int) < (1 : Int))) with g5 | g5
    ·replace h := bif_t h g5
     refine Vg hT fN [(2, false), (6, true), (12, false), (18, true)] [] [0, 1, 2, 3] ⟨[(1, kP 0 0), (4, kH 3), (44, kB true)], [], [⟨.blk, 46, 1, 3, .c [.wh 1, .s (.u8 l0_1), .wh 2]⟩, ow 92 l0_0, ob 5 l0_2, nb 5 r10.1]⟩ (aP g2 (aP g3 (aP g4 (aP g5 aN)))) ?_
     refine Vi (true) (fun _ => ?_) (fun hb => by cases hb)
     refine Vrs hT [] ⟨[(2, .c (.nils)), (3, kE 38 (some 1))], [], []⟩ ?_
     refine Vc [.nil 2 5 1 (.b [])] [0] (nAttr_R ([], (some 1))) (W_ret ?_)
     exact ⟨.inl rfl, by cases h; rfl⟩
    ·replace h := bif_f h g5
     rcases Bool.eq_false_or_eq_true (decide ((64 : Int) < ((l0_2.length : Nat) : Int))) with g6 | g6
     ·replace h := bif_t h g6
      refine Vg hT fN [(2, false), (6, true), (12, false), (18, false), (24, true)] [] [0, 1, 2, 3] ⟨[(1, kP 0 0), (4, kH 3), (44, kB true)], [], [⟨.blk, 46, 1, 3, .c [.wh 1, .s (.u8 l0_1), .wh 2]⟩, ow 92 l0_0, ob 5 l0_2, nb 5 r10.1]⟩ (aP g2 (aP g3 (aP g4 (aP g5 (aP g6 aN))))) ?_
      refine Vi (true) (fun _ => ?_) (fun hb => by cases hb)
      refine Vrs hT [] ⟨[(2, .c (.nils)), (3, kE 38 (some 1))], [], []⟩ ?_
      refine Vc [.nil 2 5 1 (.b [])] [0] (nAttr_R ([], (some 1))) (W_ret ?_)
      exact ⟨.inl rfl, by cases h; rfl⟩
     ·replace h := bif_f h g6
      obtain ⟨r42, g7, h⟩ := bind_some' h
      refine Vg hT (fT 29 (pText_ok n r42) fN) [(2, false), (6, true), (12, false), (18, false), (24, false)] [] [0, 1, 2, 3] ⟨[(1, kP 0 0), (4, kH 3), (44, kB (!((r42).isNone)))], [], [⟨.blk, 46, 1, 3, .c [.wh 1, .s (.u8 l0_1), .wh 2]⟩, ow 92 l0_0, ob 5 l0_2, nb 5 r10.1]⟩ (aP g2 (aP g3 (aP g4 (aP g5 (aP g6 (aP g7 aN)))))) ?_
      refine Vi ((!((r42).isNone))) (fun g14 => ?_) (fun g14 => ?_)
      ·replace h := bif_t h g14
       refine Vrs hT [] ⟨[(2, .c (.nils)), (3, kE 38 (some 1))], [], []⟩ ?_
       refine Vc [.nil 2 5 1 (.b [])] [0] (nAttr_R ([], (some 1))) (W_ret ?_)
       exact ⟨.inl rfl, by cases h; rfl⟩
      ·replace h := bif_f h g14
       refine W_skip ?_
       obtain ⟨r46, g8, h⟩ := bind_some' h
       refine Vgs hT (fT 0 (wNew_ok n r46) fN) [] [] [0, 1, 2, 3, 4, 5, 6] ⟨[(1, kP 0 0), (4, kH 3), (6, kP 4 0)], [], [⟨.blk, 46, 1, 3, .c [.wh 1, .s (.u8 l0_1), .wh 2]⟩, ow 92 l0_0, ob 5 l0_2, nb 5 r10.1, ⟨.blk, 100, 1, 2, .c [.wh 5, .s (.v .nilIface)]⟩, ⟨.row, 103, 2, 1, .c [.s (.u8 0), .wh 6]⟩, ⟨.row, 5, 1, 0, .b []⟩]⟩ (aP g8 aN) ?_
       obtain ⟨r48, g9, h⟩ := bind_some' h
       refine Vgs hT (fM 1 (wOpen1_ok n r48) fN) [] [] [0, 1, 2, 3, 4, 7, 8, 9] ⟨[(1, kP 0 0), (4, kH 3), (6, kP 4 0)], [], [⟨.blk, 46, 1, 3, .c [.wh 1, .s (.u8 l0_1), .wh 2]⟩, ow 92 l0_0, ob 5 l0_2, nb 5 r10.1, ⟨.blk, 100, 1, 2, .c [.wh 5, .s (.er 38 .i64 none)]⟩, ⟨.row, 103, 2, 2, .c [.s (.u8 0), .wh 6, .s (.u8 48), .wh 7]⟩, nb 5 [], ⟨.row, 5, 1, 0, .b []⟩]⟩ (aP g9 aN) ?_
       obtain ⟨r51, g10, h⟩ := bind_some' h
       refine Vgs hT (fM 2 (wPut2_ok n r51) fN) [] [] [0, 1, 2, 4, 8, 9, 10] ⟨[(1, kP 0 0), (6, kP 3 0)], [], [⟨.blk, 46, 1, 3, .c [.wh 1, .s (.u8 l0_1), .wh 2]⟩, ow 92 l0_0, ob 5 l0_2, ⟨.blk, 100, 1, 2, .c [.wh 4, .s (.er 38 .i64 none)]⟩, ⟨.row, 103, 2, 2, .c [.s (.u8 0), .wh 5, .s (.u8 48), .wh 6]⟩, nb 5 [], nb 5 r51]⟩ (aP g10 aN) ?_
       obtain ⟨r57, g11, h⟩ := bind_some' h
       refine Vgs hT (fM 5 (wPut2_ok n r57) fN) [] [] [3, 7, 8, 9] ⟨[(6, kP 0 0)], [], [⟨.blk, 100, 1, 2, .c [.wh 1, .s (.er 38 .i64 none)]⟩, ⟨.row, 103, 2, 2, .c [.s (.u8 0), .wh 2, .s (.u8 48), .wh 3]⟩, nb 5 [], nb 5 r57]⟩ (aP g11 aN) ?_
       obtain ⟨r59, g12, h⟩ := bind_some' h
       refine Vgs hT (fM 1 (wClose2_ok n r59) fN) [] [] [0, 4, 5] ⟨[(6, kP 0 0)], [], [⟨.blk, 100, 1, 2, .c [.wh 1, .s (.er 38 .i64 none)]⟩, ⟨.row, 103, 2, 1, .c [.s (.u8 0), .wh 2]⟩, nb 5 r59]⟩ (aP g12 aN) ?_
       obtain ⟨r61, g13, h⟩ := bind_some' h
       refine Vgs hT (fM 1 (wBytes1_ok n r61) fN) [] [] [5] ⟨[(2, kH 0), (3, kE 38 none)], [], [nb 5 r59]⟩ (aP g13 aN) ?_
       refine Vc [] [0] (nAttr_R (r59, none)) (W_ret ?_)
       exact ⟨.inl rfl, by cases h; rfl⟩
  ·replace h := bif_f h g3
   rcases Bool.eq_false_or_eq_true (decide (((l0_2.length : Nat) : Int) < (1 : Int))) with g15 | g15
   ·replace h := bif_t h g15
    refine Vg hT fN [(2, false), (6, false), (18, true)] [] [0, 1, 2, 3] ⟨[(1, kP 0 0), (4, kH 3), (44, kB true)], [], [⟨.blk, 46, 1, 3, .c [.wh 1, .s (.u8 l0_1), .wh 2]⟩, ow 92 l0_0, ob 5 l0_2, nb 5 r10.1]⟩ (aP g2 (aP g3 (aP g15 aN))) ?_
    refine Vi (true) (fun _ => ?_) (fun hb => by cases hb)
    refine Vrs hT [] ⟨[(2, .c (.nils)), (3, kE 38 (some 1))], [], []⟩ ?_
    refine Vc [.nil 2 5 1 (.b [])] [0] (nAttr_R ([], (some 1))) (W_ret ?_)
    exact ⟨.inl rfl, by cases h; rfl⟩
   ·replace h := bif_f h g15
    rcases Bool.eq_false_or_eq_true (decide ((64 : Int) < ((l0_2.length : Nat) : Int))) with g16 | g16
    ·replace h := bif_t h g16
     refine Vg hT fN [(2, false), (6, false), (18, false), (24, true)] [] [0, 1, 2, 3] ⟨[(1, kP 0 0), (4, kH 3), (44, kB true)], [], [⟨.blk, 46, 1, 3, .c [.wh 1, .s (.u8 l0_1), .wh 2]⟩, ow 92 l0_0, ob 5 l0_2, nb 5 r10.1]⟩ (aP g2 (aP g3 (aP g15 (aP g16 aN)))) ?_
     refine Vi (true) (fun _ => ?_) (fun hb => by cases hb)
     refine Vrs hT [] ⟨[(2, .c (.nils)), (3, kE 38 (some 1))], [], []⟩ ?_
     refine Vc [.nil 2 5 1 (.b [])] [0] (nAttr_R ([], (some 1))) (W_ret ?_)
     exact ⟨.inl rfl, by cases h; rfl⟩
    ·replace h := bif_f h g16
     obtain ⟨r42, g17, h⟩ := bind_some' h
     refine Vg hT (fT 29 (pText_ok n r42) fN) [(2, false), (6, false), (18, false), (24, false)] [] [0, 1, 2, 3] ⟨[(1, kP 0 0), (4, kH 3), (44, kB (!((r42).isNone)))], [], [⟨.blk, 46, 1, 3, .c [.wh 1, .s (.u8 l0_1), .wh 2]⟩, ow 92 l0_0, ob 5 l0_2, nb 5 r10.1]⟩ (aP g2 (aP g3 (aP g15 (aP g16 (aP g17 aN))))) ?_
     refine Vi ((!((r42).isNone))) (fun g24 => ?_) (fun g24 => ?_)
     ·replace h := bif_t h g24
      refine Vrs hT [] ⟨[(2, .c (.nils)), (3, kE 38 (some 1))], [], []⟩ ?_
      refine Vc [.nil 2 5 1 (.b [])] [0] (nAttr_R ([], (some 1))) (W_ret ?_)
      exact ⟨.inl rfl, by cases h; rfl⟩
     ·replace h := bif_f h g24
      refine W_skip ?_
      obtain ⟨r46, g18, h⟩ := bind_some' h
      refine Vgs hT (fT 0 (wNew_ok n r46) fN) [] [] [0, 1, 2, 3, 4, 5, 6] ⟨[(1, kP 0 0), (4, kH 3), (6, kP 4 0)], [], [⟨.blk, 46, 1, 3, .c [.wh 1, .s (.u8 l0_1), .wh 2]⟩, ow 92 l0_0, ob 5 l0_2, nb 5 r10.1, ⟨.blk, 100, 1, 2, .c [.wh 5, .s (.v .nilIface)]⟩, ⟨.row, 103, 2, 1, .c [.s (.u8 0), .wh 6]⟩, ⟨.row, 5, 1, 0, .b []⟩]⟩ (aP g18 aN) ?_
      obtain ⟨r48, g19, h⟩ := bind_some' h
      refine Vgs hT (fM 1 (wOpen1_ok n r48) fN) [] [] [0, 1, 2, 3, 4, 7, 8, 9] ⟨[(1, kP 0 0), (4, kH 3), (6, kP 4 0)], [], [⟨.blk, 46, 1, 3, .c [.wh 1, .s (.u8 l0_1), .wh 2]⟩, ow 92 l0_0, ob 5 l0_2, nb 5 r10.1, ⟨.blk, 100, 1, 2, .c [.wh 5, .s (.er 38 .i64 none)]⟩, ⟨.row, 103, 2, 2, .c [.s (.u8 0), .wh 6, .s (.u8 48), .wh 7]⟩, nb 5 [], ⟨.row, 5, 1, 0, .b []⟩]⟩ (aP g19 aN) ?_
      obtain ⟨r51, g20, h⟩ := bind_some' h
      refine Vgs hT (fM 2 (wPut2_ok n r51) fN) [] [] [0, 1, 2, 4, 8, 9, 10] ⟨[(1, kP 0 0), (6, kP 3 0)], [], [⟨.blk, 46, 1, 3, .c [.wh 1, .s (.u8 l0_1), .wh 2]⟩, ow 92 l0_0, ob 5 l0_2, ⟨.blk, 100, 1, 2, .c [.wh 4, .s (.er 38 .i64 none)]⟩, ⟨.row, 103, 2, 2, .c [.s (.u8 0), .wh 5, .s (.u8 48), .wh 6]⟩, nb 5 [], nb 5 r51]⟩ (aP g20 aN) ?_
      obtain ⟨r57, g21, h⟩ := bind_some' h
      refine Vgs hT (fM 5 (wPut2_ok n r57) fN) [] [] [3, 7, 8, 9] ⟨[(6, kP 0 0)], [], [⟨.blk, 100, 1, 2, .c [.wh 1, .s (.er 38 .i64 none)]⟩, ⟨.row, 103, 2, 2, .c [.s (.u8 0), .wh 2, .s (.u8 48), .wh 3]⟩, nb 5 [], nb 5 r57]⟩ (aP g21 aN) ?_
      obtain ⟨r59, g22, h⟩ := bind_some' h
      refine Vgs hT (fM 1 (wClose2_ok n r59) fN) [] [] [0, 4, 5] ⟨[(6, kP 0 0)], [], [⟨.blk, 100, 1, 2, .c [.wh 1, .s (.er 38 .i64 none)]⟩, ⟨.row, 103, 2, 1, .c [.s (.u8 0), .wh 2]⟩, nb 5 r59]⟩ (aP g22 aN) ?_
      obtain ⟨r61, g23, h⟩ := bind_some' h
      refine Vgs hT (fM 1 (wBytes1_ok n r61) fN) [] [] [5] ⟨[(2, kH 0), (3, kE 38 none)], [], [nb 5 r59]⟩ (aP g23 aN) ?_
      refine Vc [] [0] (nAttr_R (r59, none)) (W_ret ?_)
      exact ⟨.inl rfl, by cases h; rfl⟩
def nWrite_l2_E (a0 : List (List (List UInt32 × (UInt8 × List UInt8)))) (l4_1 : List UInt8) (i23_1 : Int) (l7_5 : List UInt8) (l8_5 : List UInt8) (i38_5 : Int) : S := ⟨[(4, kH 0), (7, kH 1), (8, kH 2), (21, kH 3), (22, kI ((a0.length : Nat) : Int)), (23, kI i23_1), (36, .c (.dv 3 [(i23_1.toNat, 0)])), (37, kI (((a0.getD i23_1.toNat []).length : Nat) : Int)), (38, kI i38_5)], [], [nb 5 l4_1, nb 5 l7_5, nb 5 l8_5, ⟨(.dp false), 47, 1, a0.length, .d (.sl 46 (.pr (.wo 92) (.pr .u8 (.by 5)))) a0⟩]⟩
abbrev nWrite_l2_P (n : Nat) (a0 : List (List (List UInt32 × (UInt8 × List UInt8)))) (l4_1 : List UInt8) (i23_1 : Int) (k_l1 : (List UInt8) → Int → Option (List UInt8 × Option Int)) (r : List UInt8 × Option Int) (fu : Nat) : S → Prop := fun s => ∃ (l7_5 : List UInt8), ∃ (l8_5 : List UInt8), ∃ (i38_5 : Int), s = nWrite_l2_E a0 l4_1 i23_1 l7_5 l8_5 i38_5 ∧ nWrite_l2 n a0 l4_1 i23_1 k_l1 fu l7_5 l8_5 i38_5 = some r
def nWrite_l1_E (a0 : List (List (List UInt32 × (UInt8 × List UInt8)))) (l4_1 : List UInt8) (i23_1 : Int) : S := ⟨[(4, kH 0), (21, kH 1), (22, kI ((a0.length : Nat) : Int)), (23, kI i23_1)], [], [nb 5 l4_1, ⟨(.dp false), 47, 1, a0.length, .d (.sl 46 (.pr (.wo 92) (.pr .u8 (.by 5)))) a0⟩]⟩
abbrev nWrite_l1_P (n : Nat) (a0 : List (List (List UInt32 × (UInt8 × List UInt8)))) (r : List UInt8 × Option Int) (fu : Nat) : S → Prop := fun s => ∃ (l4_1 : List UInt8), ∃ (i23_1 : Int), s = nWrite_l1_E a0 l4_1 i23_1 ∧ nWrite_l1 n a0 fu l4_1 i23_1 = some r
def nWrite_R (r : List UInt8 × Option Int) : S := ⟨[(2, kH 0), (3, kE 38 r.2)], [], [nb 5 r.1]⟩
def nWrite_ct (n : Nat) (r : List UInt8 × Option Int) : Ct := ctc (rD 47 (.sl 46 (.pr (.wo 92) (.pr .u8 (.by 5))))).rd fun _ l0 => ct0 fun H => ([nWrite n l0 = some r], shA H.length (.t [.c (.wh 0), .c (.s (.er 38 .i64 r.2))]), shH H.length [nb 5 r.1])
theorem nWrite_ok (n : Nat) (r : List UInt8 × Option Int) : FnOk Try.prog Tr 19 (nWrite_ct n r) := by
 refine fnok Try.func19 ?_
 refine HO_c (rD 47 (.sl 46 (.pr (.wo 92) (.pr .u8 (.by 5))))) fun (l0 : List (List (List UInt32 × (UInt8 × List UInt8)))) _ => HO_0 tabO_nma (nWrite_R r) [.tmp 2, .tmp 3] [0] 93 Try.func19 fun w hG h => ?_
 unfold nWrite at h
 have hT := tabO_nma
 refine Vrs hT [0] ⟨[(0, kH 0)], [], [⟨(.dp false), 47, 1, l0.length, .d (.sl 46 (.pr (.wo 92) (.pr .u8 (.by 5)))) l0⟩]⟩ ?_
 refine W_seq ?_
 refine Vrs hT [0] ⟨[(0, kH 0), (19, kB (decide ((8 : Int) < ((l0.length : Nat) : Int))))], [], [⟨(.dp false), 47, 1, l0.length, .d (.sl 46 (.pr (.wo 92) (.pr .u8 (.by 5)))) l0⟩]⟩ ?_
 refine Vi ((decide ((8 : Int) < ((l0.length : Nat) : Int)))) (fun g25 => ?_) (fun g25 => ?_)
 ·replace h := bif_t h g25
  refine Vrs hT [] ⟨[(2, .c (.nils)), (3, kE 38 (some 1))], [], []⟩ ?_
  refine Vc [.nil 2 5 1 (.b [])] [0] (nWrite_R ([], (some 1))) (W_ret ?_)
  exact ⟨.inl rfl, by cases h; rfl⟩
 ·replace h := bif_f h g25
  refine W_skip ?_
  refine Vrs hT [0] ⟨[(0, kH 0), (4, .c (.nils))], [], [⟨(.dp false), 47, 1, l0.length, .d (.sl 46 (.pr (.wo 92) (.pr .u8 (.by 5)))) l0⟩]⟩ ?_
  refine W_seq ?_
  refine Vrs hT [0] ⟨[(4, .c (.nils)), (21, kH 0), (22, kI ((l0.length : Nat) : Int)), (23, kI 0)], [], [⟨(.dp false), 47, 1, l0.length, .d (.sl 46 (.pr (.wo 92) (.pr .u8 (.by 5)))) l0⟩]⟩ ?_
  refine W_block ?_
  refine Vc [.nil 4 5 1 (.b [])] [1, 0] (nWrite_l1_E l0 [] 0) (W_lp ((nWrite_l1_P n l0 r)) n ⟨_, _, rfl, h⟩ ?_)
  rintro fu_l1 _ ⟨l4_1, i23_1, rfl, h⟩
  cases fu_l1 with
  | zero => cases h
  | succ fu_l1 =>
   refine ⟨fu_l1, rfl, ?_⟩
   rw [nWrite_l1] at h
   refine Vrs hT [0, 1] ⟨[(4, kH 0), (21, kH 1), (22, kI ((l0.length : Nat) : Int)), (23, kI i23_1), (24, kB (decide (i23_1 < ((l0.length : Nat) : Int))))], [], [nb 5 l4_1, ⟨(.dp false), 47, 1, l0.length, .d (.sl 46 (.pr (.wo 92) (.pr .u8 (.by 5)))) l0⟩]⟩ ?_
   refine W_seq ?_
   refine Vi ((decide (i23_1 < ((l0.length : Nat) : Int)))) (fun g24 => ?_) (fun g24 => ?_)
   ·replace h := bif_t h g24
    refine W_skip ?_
    refine W_seq ?_
    refine W_block ?_
    obtain ⟨g1, g2, h⟩ := gd2 h
    refine Vgs hT fN [] [] [0, 1] ⟨[(4, kH 0), (6, .c (.dv 1 [(i23_1.toNat, 0)])), (21, kH 1), (22, kI ((l0.length : Nat) : Int)), (23, kI i23_1)], [], [nb 5 l4_1, ⟨(.dp false), 47, 1, l0.length, .d (.sl 46 (.pr (.wo 92) (.pr .u8 (.by 5)))) l0⟩]⟩ (aP g1 (aP g2 aN)) ?_
    refine W_seq ?_
    refine W_seq ?_
    rcases Bool.eq_false_or_eq_true (decide ((((l0.getD i23_1.toNat []).length : Nat) : Int) < (1 : Int))) with g3 | g3
    ·replace h := bif_t h g3
     refine Vg hT fN [(3, true)] [] [0, 1] ⟨[(4, kH 0), (6, .c (.dv 1 [(i23_1.toNat, 0)])), (21, kH 1), (22, kI ((l0.length : Nat) : Int)), (23, kI i23_1), (34, kB true)], [], [nb 5 l4_1, ⟨(.dp false), 47, 1, l0.length, .d (.sl 46 (.pr (.wo 92) (.pr .u8 (.by 5)))) l0⟩]⟩ (aP g3 aN) ?_
     refine Vi (true) (fun _ => ?_) (fun hb => by cases hb)
     refine Vrs hT [] ⟨[(2, .c (.nils)), (3, kE 38 (some 1))], [], []⟩ ?_
     refine Vc [.nil 2 5 1 (.b [])] [0] (nWrite_R ([], (some 1))) (W_ret ?_)
     exact ⟨.inl rfl, by cases h; rfl⟩
    ·replace h := bif_f h g3
     refine Vg hT fN [(3, false)] [] [0, 1] ⟨[(4, kH 0), (6, .c (.dv 1 [(i23_1.toNat, 0)])), (21, kH 1), (22, kI ((l0.length : Nat) : Int)), (23, kI i23_1), (34, kB (decide ((4 : Int) < (((l0.getD i23_1.toNat []).length : Nat) : Int))))], [], [nb 5 l4_1, ⟨(.dp false), 47, 1, l0.length, .d (.sl 46 (.pr (.wo 92) (.pr .u8 (.by 5)))) l0⟩]⟩ (aP g3 aN) ?_
     refine Vi ((decide ((4 : Int) < (((l0.getD i23_1.toNat []).length : Nat) : Int)))) (fun g20 => ?_) (fun g20 => ?_)
     ·replace h := bif_t h g20
      refine Vrs hT [] ⟨[(2, .c (.nils)), (3, kE 38 (some 1))], [], []⟩ ?_
      refine Vc [.nil 2 5 1 (.b [])] [0] (nWrite_R ([], (some 1))) (W_ret ?_)
      exact ⟨.inl rfl, by cases h; rfl⟩
     ·replace h := bif_f h g20
      refine W_skip ?_
      refine Vrs hT [0, 1] ⟨[(4, kH 0), (6, .c (.dv 1 [(i23_1.toNat, 0)])), (7, .c (.nils)), (8, .c (.nils)), (21, kH 1), (22, kI ((l0.length : Nat) : Int)), (23, kI i23_1)], [], [nb 5 l4_1, ⟨(.dp false), 47, 1, l0.length, .d (.sl 46 (.pr (.wo 92) (.pr .u8 (.by 5)))) l0⟩]⟩ ?_
      refine W_seq ?_
      refine Vrs hT [0, 1] ⟨[(4, kH 0), (7, .c (.nils)), (8, .c (.nils)), (21, kH 1), (22, kI ((l0.length : Nat) : Int)), (23, kI i23_1), (36, .c (.dv 1 [(i23_1.toNat, 0)])), (37, kI (((l0.getD i23_1.toNat []).length : Nat) : Int)), (38, kI 0)], [], [nb 5 l4_1, ⟨(.dp false), 47, 1, l0.length, .d (.sl 46 (.pr (.wo 92) (.pr .u8 (.by 5)))) l0⟩]⟩ ?_
      refine W_block ?_
      refine Vc [.nil 7 5 1 (.b []), .nil 8 5 1 (.b [])] [0, 2, 3, 1] (nWrite_l2_E l0 l4_1 i23_1 [] [] 0) (W_lp ((nWrite_l2_P n l0 l4_1 i23_1 (nWrite_l1 n l0 fu_l1) r)) n ⟨_, _, _, rfl, h⟩ ?_)
      rintro fu_l2 _ ⟨l7_5, l8_5, i38_5, rfl, h⟩
      cases fu_l2 with
      | zero => cases h
      | succ fu_l2 =>
       refine ⟨fu_l2, rfl, ?_⟩
       rw [nWrite_l2] at h
       refine Vrs hT [0, 1, 2, 3] ⟨[(4, kH 0), (7, kH 1), (8, kH 2), (21, kH 3), (22, kI ((l0.length : Nat) : Int)), (23, kI i23_1), (36, .c (.dv 3 [(i23_1.toNat, 0)])), (37, kI (((l0.getD i23_1.toNat []).length : Nat) : Int)), (38, kI i38_5), (39, kB (decide (i38_5 < (((l0.getD i23_1.toNat []).length : Nat) : Int))))], [], [nb 5 l4_1, nb 5 l7_5, nb 5 l8_5, ⟨(.dp false), 47, 1, l0.length, .d (.sl 46 (.pr (.wo 92) (.pr .u8 (.by 5)))) l0⟩]⟩ ?_
       refine W_seq ?_
       refine Vi ((decide (i38_5 < (((l0.getD i23_1.toNat []).length : Nat) : Int)))) (fun g19 => ?_) (fun g19 => ?_)
       ·replace h := bif_t h g19
        refine W_skip ?_
        refine W_seq ?_
        refine W_block ?_
        obtain ⟨g4, g5, h⟩ := gd2 h
        refine Vgs hT fN [] [] [0, 1, 2, 4, 3] ⟨[(4, kH 0), (7, kH 1), (8, kH 2), (9, kI i38_5), (10, kP 3 0), (21, kH 4), (22, kI ((l0.length : Nat) : Int)), (23, kI i23_1), (36, .c (.dv 4 [(i23_1.toNat, 0)])), (37, kI (((l0.getD i23_1.toNat []).length : Nat) : Int)), (38, kI i38_5)], [], [nb 5 l4_1, nb 5 l7_5, nb 5 l8_5, ⟨.blk, 46, 1, 3, .c [.dv 4 [(i38_5.toNat, 0), (i23_1.toNat, 0)], .s (.u8 (((l0.getD i23_1.toNat []).getD i38_5.toNat ([], (0, []))).2.1)), .dv 4 [(i38_5.toNat, 2), (i23_1.toNat, 0)]]⟩, ⟨(.dp false), 47, 1, l0.length, .d (.sl 46 (.pr (.wo 92) (.pr .u8 (.by 5)))) l0⟩]⟩ (aP g4 (aP g5 aN)) ?_
        obtain ⟨r45_8, g6, h⟩ := bind_some' h
        refine Vgs hT (fT 1 (nAttr_ok n r45_8) fN) [] [] [0, 1, 2, 5, 4] ⟨[(4, kH 0), (7, kH 1), (8, kH 2), (9, kI i38_5), (11, kH 3), (12, kE 38 r45_8.2), (21, kH 4), (22, kI ((l0.length : Nat) : Int)), (23, kI i23_1), (36, .c (.dv 4 [(i23_1.toNat, 0)])), (37, kI (((l0.getD i23_1.toNat []).length : Nat) : Int)), (38, kI i38_5)], [], [nb 5 l4_1, nb 5 l7_5, nb 5 l8_5, nb 5 r45_8.1, ⟨(.dp false), 47, 1, l0.length, .d (.sl 46 (.pr (.wo 92) (.pr .u8 (.by 5)))) l0⟩]⟩ (aP g6 aN) ?_
        refine W_seq ?_
        refine W_seq ?_
        rcases Bool.eq_false_or_eq_true (!((r45_8.2).isNone)) with g7 | g7
        ·replace h := bif_t h g7
         refine Vg hT fN [(2, true)] [] [0, 1, 3, 4] ⟨[(4, kH 0), (7, kH 1), (11, kH 2), (21, kH 3), (22, kI ((l0.length : Nat) : Int)), (23, kI i23_1), (36, .c (.dv 3 [(i23_1.toNat, 0)])), (37, kI (((l0.getD i23_1.toNat []).length : Nat) : Int)), (38, kI i38_5), (59, kB true)], [], [nb 5 l4_1, nb 5 l7_5, nb 5 r45_8.1, ⟨(.dp false), 47, 1, l0.length, .d (.sl 46 (.pr (.wo 92) (.pr .u8 (.by 5)))) l0⟩]⟩ (aP g7 aN) ?_
         refine Vi (true) (fun _ => ?_) (fun hb => by cases hb)
         refine Vrs hT [] ⟨[(2, .c (.nils)), (3, kE 38 (some 1))], [], []⟩ ?_
         refine Vc [.nil 2 5 1 (.b [])] [0] (nWrite_R ([], (some 1))) (W_ret ?_)
         exact ⟨.inl rfl, by cases h; rfl⟩
        ·replace h := bif_f h g7
         rcases Bool.eq_false_or_eq_true (decide ((0 : Int) < i38_5)) with g8 | g8
         ·replace h := bif_t h g8
          refine Vg hT (fT 8 cmp_h fN) [(2, false), (5, true)] [] [0, 1, 3, 4] ⟨[(4, kH 0), (7, kH 1), (11, kH 2), (21, kH 3), (22, kI ((l0.length : Nat) : Int)), (23, kI i23_1), (36, .c (.dv 3 [(i23_1.toNat, 0)])), (37, kI (((l0.getD i23_1.toNat []).length : Nat) : Int)), (38, kI i38_5), (59, kB (decide ((0 : Int) ≤ (Lib.compareBytes l8_5 r45_8.1))))], [], [nb 5 l4_1, nb 5 l7_5, nb 5 r45_8.1, ⟨(.dp false), 47, 1, l0.length, .d (.sl 46 (.pr (.wo 92) (.pr .u8 (.by 5)))) l0⟩]⟩ (aP g7 (aP g8 aN)) ?_
          refine Vi ((decide ((0 : Int) ≤ (Lib.compareBytes l8_5 r45_8.1)))) (fun g11 => ?_) (fun g11 => ?_)
          ·replace h := bif_t h g11
           refine Vrs hT [] ⟨[(2, .c (.nils)), (3, kE 38 (some 1))], [], []⟩ ?_
           refine Vc [.nil 2 5 1 (.b [])] [0] (nWrite_R ([], (some 1))) (W_ret ?_)
           exact ⟨.inl rfl, by cases h; rfl⟩
          ·replace h := bif_f h g11
           refine W_skip ?_
           obtain ⟨g9, h⟩ := gd_some h
           refine Vg hT fN [] [] [0, 4, 2, 3] ⟨[(4, kH 0), (7, kH 1), (8, kH 2), (21, kH 3), (22, kI ((l0.length : Nat) : Int)), (23, kI i23_1), (36, .c (.dv 3 [(i23_1.toNat, 0)])), (37, kI (((l0.getD i23_1.toNat []).length : Nat) : Int)), (38, kI i38_5)], [], [nb 5 l4_1, nb 5 (l7_5 ++ r45_8.1), nb 5 r45_8.1, ⟨(.dp false), 47, 1, l0.length, .d (.sl 46 (.pr (.wo 92) (.pr .u8 (.by 5)))) l0⟩]⟩ (aP g9 aN) ?_
           obtain ⟨g10, h⟩ := gd_some h
           refine Vg hT fN [] [] [0, 1, 2, 3] (nWrite_l2_E l0 l4_1 i23_1 (l7_5 ++ r45_8.1) r45_8.1 (i38_5 + 1)) (aP g10 aN) ?_
           exact ⟨_, _, _, rfl, h⟩
         ·replace h := bif_f h g8
          refine Vg hT fN [(2, false), (5, false)] [] [0, 1, 3, 4] ⟨[(4, kH 0), (7, kH 1), (11, kH 2), (21, kH 3), (22, kI ((l0.length : Nat) : Int)), (23, kI i23_1), (36, .c (.dv 3 [(i23_1.toNat, 0)])), (37, kI (((l0.getD i23_1.toNat []).length : Nat) : Int)), (38, kI i38_5), (59, kB false)], [], [nb 5 l4_1, nb 5 l7_5, nb 5 r45_8.1, ⟨(.dp false), 47, 1, l0.length, .d (.sl 46 (.pr (.wo 92) (.pr .u8 (.by 5)))) l0⟩]⟩ (aP g7 (aP g8 aN)) ?_
          refine Vi (false) (fun hb => by cases hb) (fun _ => ?_)
          refine W_skip ?_
          obtain ⟨g12, h⟩ := gd_some h
          refine Vg hT fN [] [] [0, 4, 2, 3] ⟨[(4, kH 0), (7, kH 1), (8, kH 2), (21, kH 3), (22, kI ((l0.length : Nat) : Int)), (23, kI i23_1), (36, .c (.dv 3 [(i23_1.toNat, 0)])), (37, kI (((l0.getD i23_1.toNat []).length : Nat) : Int)), (38, kI i38_5)], [], [nb 5 l4_1, nb 5 (l7_5 ++ r45_8.1), nb 5 r45_8.1, ⟨(.dp false), 47, 1, l0.length, .d (.sl 46 (.pr (.wo 92) (.pr .u8 (.by 5)))) l0⟩]⟩ (aP g12 aN) ?_
          obtain ⟨g13, h⟩ := gd_some h
          refine Vg hT fN [] [] [0, 1, 2, 3] (nWrite_l2_E l0 l4_1 i23_1 (l7_5 ++ r45_8.1) r45_8.1 (i38_5 + 1)) (aP g13 aN) ?_
          exact ⟨_, _, _, rfl, h⟩
       ·replace h := bif_f h g19
        refine Vc [] [0, 1, 3] ⟨[(4, kH 0), (7, kH 1), (21, kH 2), (22, kI ((l0.length : Nat) : Int)), (23, kI i23_1)], [], [nb 5 l4_1, nb 5 l7_5, ⟨(.dp false), 47, 1, l0.length, .d (.sl 46 (.pr (.wo 92) (.pr .u8 (.by 5)))) l0⟩]⟩ (W_exit ?_)
        obtain ⟨r69_5, g14, h⟩ := bind_some' h
        refine Vgs hT (fT 2 (tHead_ok n r69_5) fN) [] [] [0, 1, 3, 2] ⟨[(4, kH 0), (7, kH 1), (13, kH 2), (14, kE 38 r69_5.2), (21, kH 3), (22, kI ((l0.length : Nat) : Int)), (23, kI i23_1)], [], [nb 5 l4_1, nb 5 l7_5, nb 5 r69_5.1, ⟨(.dp false), 47, 1, l0.length, .d (.sl 46 (.pr (.wo 92) (.pr .u8 (.by 5)))) l0⟩]⟩ (aP g14 aN) ?_
        refine W_seq ?_
        refine Vrs hT [0, 1, 2, 3] ⟨[(4, kH 0), (7, kH 1), (13, kH 2), (21, kH 3), (22, kI ((l0.length : Nat) : Int)), (23, kI i23_1), (73, kB (!((r69_5.2).isNone)))], [], [nb 5 l4_1, nb 5 l7_5, nb 5 r69_5.1, ⟨(.dp false), 47, 1, l0.length, .d (.sl 46 (.pr (.wo 92) (.pr .u8 (.by 5)))) l0⟩]⟩ ?_
        refine Vi ((!((r69_5.2).isNone))) (fun g18 => ?_) (fun g18 => ?_)
        ·replace h := bif_t h g18
         refine Vrs hT [] ⟨[(2, .c (.nils)), (3, kE 38 (some 1))], [], []⟩ ?_
         refine Vc [.nil 2 5 1 (.b [])] [0] (nWrite_R ([], (some 1))) (W_ret ?_)
         exact ⟨.inl rfl, by cases h; rfl⟩
        ·replace h := bif_f h g18
         refine W_skip ?_
         obtain ⟨g15, g16, h⟩ := gd2 h
         refine Vg hT fN [] [] [5, 3] ⟨[(4, kH 0), (21, kH 1), (22, kI ((l0.length : Nat) : Int)), (23, kI i23_1)], [], [nb 5 ((l4_1 ++ r69_5.1) ++ l7_5), ⟨(.dp false), 47, 1, l0.length, .d (.sl 46 (.pr (.wo 92) (.pr .u8 (.by 5)))) l0⟩]⟩ (aP g15 (aP g16 aN)) ?_
         obtain ⟨g17, h⟩ := gd_some h
         refine Vg hT fN [] [] [0, 1] (nWrite_l1_E l0 ((l4_1 ++ r69_5.1) ++ l7_5) (i23_1 + 1)) (aP g17 aN) ?_
         exact ⟨_, _, rfl, h⟩
   ·replace h := bif_f h g24
    refine Vc [] [0] ⟨[(4, kH 0)], [], [nb 5 l4_1]⟩ (W_exit ?_)
    obtain ⟨r84_1, g21, h⟩ := bind_some' h
    refine Vgs hT (fT 2 (tHead_ok n r84_1) fN) [] [] [0, 1] ⟨[(4, kH 0), (15, kH 1), (16, kE 38 r84_1.2)], [], [nb 5 l4_1, nb 5 r84_1.1]⟩ (aP g21 aN) ?_
    refine W_seq ?_
    refine Vrs hT [0, 1] ⟨[(4, kH 0), (15, kH 1), (88, kB (!((r84_1.2).isNone)))], [], [nb 5 l4_1, nb 5 r84_1.1]⟩ ?_
    refine Vi ((!((r84_1.2).isNone))) (fun g23 => ?_) (fun g23 => ?_)
    ·replace h := bif_t h g23
     refine Vrs hT [] ⟨[(2, .c (.nils)), (3, kE 38 (some 1))], [], []⟩ ?_
     refine Vc [.nil 2 5 1 (.b [])] [0] (nWrite_R ([], (some 1))) (W_ret ?_)
     exact ⟨.inl rfl, by cases h; rfl⟩
    ·replace h := bif_f h g23
     refine W_skip ?_
     obtain ⟨g22, h⟩ := gd_some h
     refine Vgs hT fN [] [] [2] ⟨[(2, kH 0), (3, .c (.s (.v .nilIface)))], [], [nb 5 (r84_1.1 ++ l4_1)]⟩ (aP g22 aN) ?_
     refine Vc [.er 3 38 .i64] [0] (nWrite_R ((r84_1.1 ++ l4_1), none)) (W_ret ?_)
     exact ⟨.inl rfl, by cases h; rfl⟩
def nCheck_R (r : Option Int) : S := ⟨[(2, kE 38 r)], [], []⟩
def nCheck_ct (n : Nat) (r : Option Int) : Ct := ctc (rD 47 (.sl 46 (.pr (.wo 92) (.pr .u8 (.by 5))))).rd fun _ l0 => ct0 fun H => ([nCheck n l0 = some r], shA H.length (kE 38 r), shH H.length [])
theorem nCheck_ok (n : Nat) (r : Option Int) : FnOk Try.prog Tr 18 (nCheck_ct n r) := by
 refine fnok Try.func18 ?_
 refine HO_c (rD 47 (.sl 46 (.pr (.wo 92) (.pr .u8 (.by 5))))) fun (l0 : List (List (List UInt32 × (UInt8 × List UInt8)))) _ => HO_0 tabO_nma (nCheck_R r) [.tmp 2] [] 11 Try.func18 fun w hG h => ?_
 unfold nCheck at h
 have hT := tabO_nma
 refine Vrs hT [0] ⟨[(0, kH 0)], [], [⟨(.dp false), 47, 1, l0.length, .d (.sl 46 (.pr (.wo 92) (.pr .u8 (.by 5)))) l0⟩]⟩ ?_
 obtain ⟨r7, g1, h⟩ := bind_some' h
 refine Vgs hT (fT 1 (nWrite_ok n r7) fN) [] [] [] ⟨[(4, kE 38 r7.2)], [], []⟩ (aP g1 aN) ?_
 refine Vrs hT [] ⟨[(2, kE 38 r7.2)], [], []⟩ ?_
 refine Vc [] [] (nCheck_R r7.2) (W_ret ?_)
 exact ⟨.inl rfl, by cases h; rfl⟩
def rMark_R (r : Bool) : S := ⟨[(2, kB r)], [], []⟩
def rMark_ct (n : Nat) (r : Bool) : Ct := ctc rU8.rd fun _ l0 => ct0 fun H => ([rMark n l0 = some r], shA H.length (kB r), shH H.length [])
theorem rMark_ok (n : Nat) (r : Bool) : FnOk Try.prog Tr 79 (rMark_ct n r) := by
 refine fnok Try.func79 ?_
 refine HO_c rU8 fun l0 _ => HO_0 tabO_nma (rMark_R r) [.tmp 2] [] 6 Try.func79 fun w hG h => ?_
 unfold rMark at h
 have hT := tabO_nma
 refine Vrs hT [] ⟨[(0, kU l0)], [], []⟩ ?_
 obtain ⟨g1, h⟩ := gd_some h
 refine Vgs hT fN [] [] [] ⟨[(2, kB ((l0 % (32 : UInt8)) != 31))], [], []⟩ (aP g1 aN) ?_
 refine Vc [] [] (rMark_R ((l0 % (32 : UInt8)) != 31)) (W_ret ?_)
 exact ⟨.inl rfl, by cases h; rfl⟩
def rHead_R (r : List UInt8) : S := ⟨[(4, kH 0)], [], [nb 5 r]⟩
def rHead_ct (n : Nat) (r : List UInt8) : Ct := ctc rU8.rd fun _ l0 => ctc rI.rd fun _ l1 => ct0 fun H => ([rHead n l0 l1 = some r], shA H.length (kH 0), shH H.length [nb 5 r])
theorem rHead_ok (n : Nat) (r : List UInt8) : FnOk Try.prog Tr 52 (rHead_ct n r) := by
 refine fnok Try.func52 ?_
 refine HO_c rU8 fun l0 _ => HO_c rI fun l1 _ => HO_0 tabO_nma (rHead_R r) [.tmp 4] [0] 25 Try.func52 fun w hG h => ?_
 unfold rHead at h
 have hT := tabO_nma
 refine Vrs hT [] ⟨[(0, kU l0), (1, kI l1)], [], []⟩ ?_
 refine W_seq ?_
 refine Vrs hT [] ⟨[(0, kU l0), (1, kI l1), (6, kB (decide (l1 < (128 : Int))))], [], []⟩ ?_
 refine Vi ((decide (l1 < (128 : Int)))) (fun g5 => ?_) (fun g5 => ?_)
 ·replace h := bif_t h g5
  refine Vrs hT [0] ⟨[(4, kH 0)], [], [⟨.row, 5, 1, 2, .b [l0, (UInt8.ofInt l1)]⟩]⟩ ?_
  refine Vc [] [0] (rHead_R [l0, (UInt8.ofInt l1)]) (W_ret ?_)
  exact ⟨.inl rfl, by cases h; rfl⟩
 ·replace h := bif_f h g5
  refine W_skip ?_
  refine W_seq ?_
  refine Vrs hT [] ⟨[(0, kU l0), (1, kI l1), (12, kB (decide (l1 < (256 : Int))))], [], []⟩ ?_
  refine Vi ((decide (l1 < (256 : Int)))) (fun g4 => ?_) (fun g4 => ?_)
  ·replace h := bif_t h g4
   refine Vrs hT [0] ⟨[(4, kH 0)], [], [⟨.row, 5, 1, 3, .b [l0, 129, (UInt8.ofInt l1)]⟩]⟩ ?_
   refine Vc [] [0] (rHead_R [l0, 129, (UInt8.ofInt l1)]) (W_ret ?_)
   exact ⟨.inl rfl, by cases h; rfl⟩
  ·replace h := bif_f h g4
   refine W_skip ?_
   obtain ⟨g1, g2, g3, h⟩ := gd3 h
   refine Vgs hT fN [] [] [0] ⟨[(4, kH 0)], [], [⟨.row, 5, 1, 4, .b [l0, 130, (UInt8.ofInt (Int.tdiv l1 256)), (UInt8.ofInt (Int.tmod l1 256))]⟩]⟩ (aP g1 (aP g2 (aP g3 aN))) ?_
   refine Vc [] [0] (rHead_R [l0, 130, (UInt8.ofInt (Int.tdiv l1 256)), (UInt8.ofInt (Int.tmod l1 256))]) (W_ret ?_)
   exact ⟨.inl rfl, by cases h; rfl⟩
def rEl_R (r : List UInt8) : S := ⟨[(4, kH 0)], [], [nb 5 r]⟩
def rEl_ct (n : Nat) (r : List UInt8) : Ct := ctc rU8.rd fun _ l0 => ctc (rB 5).rd fun _ l1 => ct0 fun H => ([rEl n l0 l1 = some r], shA H.length (kH 0), shH H.length [nb 5 r])
theorem rEl_ok (n : Nat) (r : List UInt8) : FnOk Try.prog Tr 30 (rEl_ct n r) := by
 refine fnok Try.func30 ?_
 refine HO_c rU8 fun l0 _ => HO_c (rB 5) fun l1 _ => HO_0 tabO_nma (rEl_R r) [.tmp 4] [0] 11 Try.func30 fun w hG h => ?_
 unfold rEl at h
 have hT := tabO_nma
 refine Vrs hT [0] ⟨[(0, kU l0), (1, kH 0)], [], [ob 5 l1]⟩ ?_
 obtain ⟨r8, g1, h⟩ := bind_some' h
 obtain ⟨g2, h⟩ := gd_some h
 refine Vgs hT (fT 3 (rHead_ok n r8) fN) [] [] [2] ⟨[(4, kH 0)], [], [nb 5 (r8 ++ l1)]⟩ (aP g1 (aP g2 aN)) ?_
 refine Vc [] [0] (rEl_R (r8 ++ l1)) (W_ret ?_)
 exact ⟨.inl rfl, by cases h; rfl⟩
def rAttr_R (r : List UInt8 × Bool) : S := ⟨[(2, kH 0), (3, kB r.2)], [], [nb 5 r.1]⟩
def rAttr_ct (n : Nat) (r : List UInt8 × Bool) : Ct := ctc (rSt (lC (cW 92) (lC cU8 (lC (cB 5) lN)))).rd fun _ y0 => ct0 fun H => ([rAttr n y0.1 y0.2.1 y0.2.2.1 = some r], shA H.length (.t [.c (.wh 0), .c (.s (.b r.2))]), shH H.length [nb 5 r.1])
theorem rAttr_ok (n : Nat) (r : List UInt8 × Bool) : FnOk Try.prog Tr 29 (rAttr_ct n r) := by
 refine fnok Try.func29 ?_
 refine HO_c (rSt (lC (cW 92) (lC cU8 (lC (cB 5) lN)))) fun p0 _ => ?_
 obtain ⟨l0_0, l0_1, l0_2, _⟩ := p0
 refine HO_0 tabO_nma (rAttr_R r) [.tmp 2, .tmp 3] [0] 49 Try.func29 fun w hG h => ?_
 have h : rAttr n l0_0 l0_1 l0_2 = some r := h
 unfold rAttr at h
 have hT := tabO_nma
 refine Vrs hT [2, 0, 1] ⟨[(1, kP 0 0)], [], [⟨.blk, 46, 1, 3, .c [.wh 1, .s (.u8 l0_1), .wh 2]⟩, ow 92 l0_0, ob 5 l0_2]⟩ ?_
 refine W_seq ?_
 refine W_seq ?_
 rcases Bool.eq_false_or_eq_true (l0_1 != 12) with g1 | g1
 ·replace h := bif_t h g1
  rcases Bool.eq_false_or_eq_true (l0_1 != 19) with g2 | g2
  ·replace h := bif_t h g2
   refine Vg hT fN [(3, true), (8, true)] [] [0, 1, 2] ⟨[(1, kP 0 0), (24, kB true)], [], [⟨.blk, 46, 1, 3, .c [.wh 1, .s (.u8 l0_1), .wh 2]⟩, ow 92 l0_0, ob 5 l0_2]⟩ (aP g1 (aP g2 aN)) ?_
   refine Vi (true) (fun _ => ?_) (fun hb => by cases hb)
   refine Vrs hT [] ⟨[(2, .c (.nils)), (3, kB false)], [], []⟩ ?_
   refine Vc [.nil 2 5 1 (.b [])] [0] (rAttr_R ([], false)) (W_ret ?_)
   exact ⟨.inl rfl, by cases h; rfl⟩
  ·replace h := bif_f h g2
   rcases Bool.eq_false_or_eq_true (decide (((l0_2.length : Nat) : Int) < (1 : Int))) with g3 | g3
   ·replace h := bif_t h g3
    refine Vg hT fN [(3, true), (8, false), (14, true)] [] [0, 1, 2] ⟨[(1, kP 0 0), (24, kB true)], [], [⟨.blk, 46, 1, 3, .c [.wh 1, .s (.u8 l0_1), .wh 2]⟩, ow 92 l0_0, ob 5 l0_2]⟩ (aP g1 (aP g2 (aP g3 aN))) ?_
    refine Vi (true) (fun _ => ?_) (fun hb => by cases hb)
    refine Vrs hT [] ⟨[(2, .c (.nils)), (3, kB false)], [], []⟩ ?_
    refine Vc [.nil 2 5 1 (.b [])] [0] (rAttr_R ([], false)) (W_ret ?_)
    exact ⟨.inl rfl, by cases h; rfl⟩
   ·replace h := bif_f h g3
    refine Vg hT fN [(3, true), (8, false), (14, false)] [] [0, 1, 2] ⟨[(1, kP 0 0), (24, kB (decide ((64 : Int) < ((l0_2.length : Nat) : Int))))], [], [⟨.blk, 46, 1, 3, .c [.wh 1, .s (.u8 l0_1), .wh 2]⟩, ow 92 l0_0, ob 5 l0_2]⟩ (aP g1 (aP g2 (aP g3 aN))) ?_
    refine Vi ((decide ((64 : Int) < ((l0_2.length : Nat) : Int)))) (fun g13 => ?_) (fun g13 => ?_)
    ·replace h := bif_t h g13
     refine Vrs hT [] ⟨[(2, .c (.nils)), (3, kB false)], [], []⟩ ?_
     refine Vc [.nil 2 5 1 (.b [])] [0] (rAttr_R ([], false)) (W_ret ?_)
     exact ⟨.inl rfl, by cases h; rfl⟩
    ·replace h := bif_f h g13
     refine Vc [] [0, 1, 2] ⟨[(1, kP 0 0)], [], [⟨.blk, 46, 1, 3, .c [.wh 1, .s (.u8 l0_1), .wh 2]⟩, ow 92 l0_0, ob 5 l0_2]⟩ (W_skip ?_)
     refine W_seq ?_
     refine W_seq ?_
     obtain ⟨r27, g4, h⟩ := bind_some' h
     rcases Bool.eq_false_or_eq_true (!r27) with g5 | g5
     ·replace h := bif_t h g5
      refine Vg hT (fT 2 (rOid_ok n r27) fN) [(4, true)] [] [0, 1, 2] ⟨[(1, kP 0 0), (36, kB true)], [], [⟨.blk, 46, 1, 3, .c [.wh 1, .s (.u8 l0_1), .wh 2]⟩, ow 92 l0_0, ob 5 l0_2]⟩ (aP g4 (aP g5 aN)) ?_
      refine Vi (true) (fun _ => ?_) (fun hb => by cases hb)
      refine Vrs hT [] ⟨[(2, .c (.nils)), (3, kB false)], [], []⟩ ?_
      refine Vc [.nil 2 5 1 (.b [])] [0] (rAttr_R ([], false)) (W_ret ?_)
      exact ⟨.inl rfl, by cases h; rfl⟩
     ·replace h := bif_f h g5
      obtain ⟨r34, g6, h⟩ := bind_some' h
      refine Vg hT (fT 2 (rOid_ok n r27) (fT 9 (rText_ok n r34) fN)) [(4, false)] [] [0, 1, 2] ⟨[(1, kP 0 0), (36, kB (!r34))], [], [⟨.blk, 46, 1, 3, .c [.wh 1, .s (.u8 l0_1), .wh 2]⟩, ow 92 l0_0, ob 5 l0_2]⟩ (aP g4 (aP g5 (aP g6 aN))) ?_
      refine Vi ((!r34)) (fun g12 => ?_) (fun g12 => ?_)
      ·replace h := bif_t h g12
       refine Vrs hT [] ⟨[(2, .c (.nils)), (3, kB false)], [], []⟩ ?_
       refine Vc [.nil 2 5 1 (.b [])] [0] (rAttr_R ([], false)) (W_ret ?_)
       exact ⟨.inl rfl, by cases h; rfl⟩
      ·replace h := bif_f h g12
       refine W_skip ?_
       obtain ⟨r39, g7, h⟩ := bind_some' h
       obtain ⟨r40, g8, h⟩ := bind_some' h
       obtain ⟨r45, g9, h⟩ := bind_some' h
       obtain ⟨g10, h⟩ := gd_some h
       refine Vds hT (fT 2 (rOidBody_ok n r39) (fT 3 (rEl_ok n r40) (fT 8 (rEl_ok n r45) fN))) 8 [] [(40, false), (42, false), (44, false)] [] [5] ⟨[(4, kH 0)], [], [nb 5 (r40 ++ r45)]⟩ (aP g7 (aP g8 (aP g9 (aP g10 aN)))) ?_
       obtain ⟨r48, g11, h⟩ := bind_some' h
       refine Vgs hT (fT 1 (rEl_ok n r48) fN) [] [] [1] ⟨[(2, kH 0), (3, kB true)], [], [nb 5 r48]⟩ (aP g11 aN) ?_
       refine Vc [] [0] (rAttr_R (r48, true)) (W_ret ?_)
       exact ⟨.inl rfl, by cases h; rfl⟩
 ·replace h := bif_f h g1
  rcases Bool.eq_false_or_eq_true (decide (((l0_2.length : Nat) : Int) < (1 : Int))) with g14 | g14
  ·replace h := bif_t h g14
   refine Vg hT fN [(3, false), (14, true)] [] [0, 1, 2] ⟨[(1, kP 0 0), (24, kB true)], [], [⟨.blk, 46, 1, 3, .c [.wh 1, .s (.u8 l0_1), .wh 2]⟩, ow 92 l0_0, ob 5 l0_2]⟩ (aP g1 (aP g14 aN)) ?_
   refine Vi (true) (fun _ => ?_) (fun hb => by cases hb)
   refine Vrs hT [] ⟨[(2, .c (.nils)), (3, kB false)], [], []⟩ ?_
   refine Vc [.nil 2 5 1 (.b [])] [0] (rAttr_R ([], false)) (W_ret ?_)
   exact ⟨.inl rfl, by cases h; rfl⟩
  ·replace h := bif_f h g14
   refine Vg hT fN [(3, false), (14, false)] [] [0, 1, 2] ⟨[(1, kP 0 0), (24, kB (decide ((64 : Int) < ((l0_2.length : Nat) : Int))))], [], [⟨.blk, 46, 1, 3, .c [.wh 1, .s (.u8 l0_1), .wh 2]⟩, ow 92 l0_0, ob 5 l0_2]⟩ (aP g1 (aP g14 aN)) ?_
   refine Vi ((decide ((64 : Int) < ((l0_2.length : Nat) : Int)))) (fun g24 => ?_) (fun g24 => ?_)
   ·replace h := bif_t h g24
    refine Vrs hT [] ⟨[(2, .c (.nils)), (3, kB false)], [], []⟩ ?_
    refine Vc [.nil 2 5 1 (.b [])] [0] (rAttr_R ([], false)) (W_ret ?_)
    exact ⟨.inl rfl, by cases h; rfl⟩
   ·replace h := bif_f h g24
    refine Vc [] [0, 1, 2] ⟨[(1, kP 0 0)], [], [⟨.blk, 46, 1, 3, .c [.wh 1, .s (.u8 l0_1), .wh 2]⟩, ow 92 l0_0, ob 5 l0_2]⟩ (W_skip ?_)
    refine W_seq ?_
    refine W_seq ?_
    obtain ⟨r27, g15, h⟩ := bind_some' h
    rcases Bool.eq_false_or_eq_true (!r27) with g16 | g16
    ·replace h := bif_t h g16
     refine Vg hT (fT 2 (rOid_ok n r27) fN) [(4, true)] [] [0, 1, 2] ⟨[(1, kP 0 0), (36, kB true)], [], [⟨.blk, 46, 1, 3, .c [.wh 1, .s (.u8 l0_1), .wh 2]⟩, ow 92 l0_0, ob 5 l0_2]⟩ (aP g15 (aP g16 aN)) ?_
     refine Vi (true) (fun _ => ?_) (fun hb => by cases hb)
     refine Vrs hT [] ⟨[(2, .c (.nils)), (3, kB false)], [], []⟩ ?_
     refine Vc [.nil 2 5 1 (.b [])] [0] (rAttr_R ([], false)) (W_ret ?_)
     exact ⟨.inl rfl, by cases h; rfl⟩
    ·replace h := bif_f h g16
     obtain ⟨r34, g17, h⟩ := bind_some' h
     refine Vg hT (fT 2 (rOid_ok n r27) (fT 9 (rText_ok n r34) fN)) [(4, false)] [] [0, 1, 2] ⟨[(1, kP 0 0), (36, kB (!r34))], [], [⟨.blk, 46, 1, 3, .c [.wh 1, .s (.u8 l0_1), .wh 2]⟩, ow 92 l0_0, ob 5 l0_2]⟩ (aP g15 (aP g16 (aP g17 aN))) ?_
     refine Vi ((!r34)) (fun g23 => ?_) (fun g23 => ?_)
     ·replace h := bif_t h g23
      refine Vrs hT [] ⟨[(2, .c (.nils)), (3, kB false)], [], []⟩ ?_
      refine Vc [.nil 2 5 1 (.b [])] [0] (rAttr_R ([], false)) (W_ret ?_)
      exact ⟨.inl rfl, by cases h; rfl⟩
     ·replace h := bif_f h g23
      refine W_skip ?_
      obtain ⟨r39, g18, h⟩ := bind_some' h
      obtain ⟨r40, g19, h⟩ := bind_some' h
      obtain ⟨r45, g20, h⟩ := bind_some' h
      obtain ⟨g21, h⟩ := gd_some h
      refine Vds hT (fT 2 (rOidBody_ok n r39) (fT 3 (rEl_ok n r40) (fT 8 (rEl_ok n r45) fN))) 8 [] [(40, false), (42, false), (44, false)] [] [5] ⟨[(4, kH 0)], [], [nb 5 (r40 ++ r45)]⟩ (aP g18 (aP g19 (aP g20 (aP g21 aN)))) ?_
      obtain ⟨r48, g22, h⟩ := bind_some' h
      refine Vgs hT (fT 1 (rEl_ok n r48) fN) [] [] [1] ⟨[(2, kH 0), (3, kB true)], [], [nb 5 r48]⟩ (aP g22 aN) ?_
      refine Vc [] [0] (rAttr_R (r48, true)) (W_ret ?_)
      exact ⟨.inl rfl, by cases h; rfl⟩
def rWrite_l2_E (a0 : List (List (List UInt32 × (UInt8 × List UInt8)))) (l4_1 : List UInt8) (i5_1 : Int) (l6_5 : List UInt8) (l7_5 : List UInt8) (i8_5 : Int) : S := ⟨[(0, kH 0), (4, kH 1), (5, kI i5_1), (6, kH 2), (7, kT l7_5), (8, kI i8_5)], [], [⟨(.dp false), 47, 1, a0.length, .d (.sl 46 (.pr (.wo 92) (.pr .u8 (.by 5)))) a0⟩, nb 5 l4_1, nb 5 l6_5]⟩
abbrev rWrite_l2_P (n : Nat) (a0 : List (List (List UInt32 × (UInt8 × List UInt8)))) (l4_1 : List UInt8) (i5_1 : Int) (k_l1 : (List UInt8) → Int → Option (List UInt8 × Bool)) (r : List UInt8 × Bool) (fu : Nat) : S → Prop := fun s => ∃ (l6_5 : List UInt8), ∃ (l7_5 : List UInt8), ∃ (i8_5 : Int), s = rWrite_l2_E a0 l4_1 i5_1 l6_5 l7_5 i8_5 ∧ rWrite_l2 n a0 l4_1 i5_1 k_l1 fu l6_5 l7_5 i8_5 = some r
def rWrite_l1_E (a0 : List (List (List UInt32 × (UInt8 × List UInt8)))) (l4_1 : List UInt8) (i5_1 : Int) : S := ⟨[(0, kH 0), (4, kH 1), (5, kI i5_1)], [], [⟨(.dp false), 47, 1, a0.length, .d (.sl 46 (.pr (.wo 92) (.pr .u8 (.by 5)))) a0⟩, nb 5 l4_1]⟩
abbrev rWrite_l1_P (n : Nat) (a0 : List (List (List UInt32 × (UInt8 × List UInt8)))) (r : List UInt8 × Bool) (fu : Nat) : S → Prop := fun s => ∃ (l4_1 : List UInt8), ∃ (i5_1 : Int), s = rWrite_l1_E a0 l4_1 i5_1 ∧ rWrite_l1 n a0 fu l4_1 i5_1 = some r
def rWrite_R (r : List UInt8 × Bool) : S := ⟨[(2, kH 0), (3, kB r.2)], [], [nb 5 r.1]⟩
def rWrite_ct (n : Nat) (r : List UInt8 × Bool) : Ct := ctc (rD 47 (.sl 46 (.pr (.wo 92) (.pr .u8 (.by 5))))).rd fun _ l0 => ct0 fun H => ([rWrite n l0 = some r], shA H.length (.t [.c (.wh 0), .c (.s (.b r.2))]), shH H.length [nb 5 r.1])
theorem rWrite_ok (n : Nat) (r : List UInt8 × Bool) : FnOk Try.prog Tr 20 (rWrite_ct n r) := by
 refine fnok Try.func20 ?_
 refine HO_c (rD 47 (.sl 46 (.pr (.wo 92) (.pr .u8 (.by 5))))) fun (l0 : List (List (List UInt32 × (UInt8 × List UInt8)))) _ => HO_0 tabO_nma (rWrite_R r) [.tmp 2, .tmp 3] [0] 77 Try.func20 fun w hG h => ?_
 unfold rWrite at h
 have hT := tabO_nma
 refine Vrs hT [0] ⟨[(0, kH 0)], [], [⟨(.dp false), 47, 1, l0.length, .d (.sl 46 (.pr (.wo 92) (.pr .u8 (.by 5)))) l0⟩]⟩ ?_
 refine W_seq ?_
 refine Vrs hT [0] ⟨[(0, kH 0), (13, kB (decide ((8 : Int) < ((l0.length : Nat) : Int))))], [], [⟨(.dp false), 47, 1, l0.length, .d (.sl 46 (.pr (.wo 92) (.pr .u8 (.by 5)))) l0⟩]⟩ ?_
 refine Vi ((decide ((8 : Int) < ((l0.length : Nat) : Int)))) (fun g27 => ?_) (fun g27 => ?_)
 ·replace h := bif_t h g27
  refine Vrs hT [] ⟨[(2, .c (.nils)), (3, kB false)], [], []⟩ ?_
  refine Vc [.nil 2 5 1 (.b [])] [0] (rWrite_R ([], false)) (W_ret ?_)
  exact ⟨.inl rfl, by cases h; rfl⟩
 ·replace h := bif_f h g27
  refine W_skip ?_
  refine Vrs hT [0] ⟨[(0, kH 0), (4, .c (.nils))], [], [⟨(.dp false), 47, 1, l0.length, .d (.sl 46 (.pr (.wo 92) (.pr .u8 (.by 5)))) l0⟩]⟩ ?_
  refine W_seq ?_
  refine Vrs hT [0] ⟨[(0, kH 0), (4, .c (.nils)), (5, kI 0)], [], [⟨(.dp false), 47, 1, l0.length, .d (.sl 46 (.pr (.wo 92) (.pr .u8 (.by 5)))) l0⟩]⟩ ?_
  refine W_block ?_
  refine Vc [.nil 4 5 1 (.b [])] [0, 1] (rWrite_l1_E l0 [] 0) (W_lp ((rWrite_l1_P n l0 r)) n ⟨_, _, rfl, h⟩ ?_)
  rintro fu_l1 _ ⟨l4_1, i5_1, rfl, h⟩
  cases fu_l1 with
  | zero => cases h
  | succ fu_l1 =>
   refine ⟨fu_l1, rfl, ?_⟩
   rw [rWrite_l1] at h
   refine W_seq ?_
   refine Vrs hT [0, 1] ⟨[(0, kH 0), (4, kH 1), (5, kI i5_1), (17, kB (decide (i5_1 < ((l0.length : Nat) : Int))))], [], [⟨(.dp false), 47, 1, l0.length, .d (.sl 46 (.pr (.wo 92) (.pr .u8 (.by 5)))) l0⟩, nb 5 l4_1]⟩ ?_
   refine Vi ((decide (i5_1 < ((l0.length : Nat) : Int)))) (fun g26 => ?_) (fun g26 => ?_)
   ·replace h := bif_t h g26
    refine Vc [] [0, 1] ⟨[(0, kH 0), (4, kH 1), (5, kI i5_1)], [], [⟨(.dp false), 47, 1, l0.length, .d (.sl 46 (.pr (.wo 92) (.pr .u8 (.by 5)))) l0⟩, nb 5 l4_1]⟩ (W_skip ?_)
    refine W_seq ?_
    refine W_block ?_
    refine W_seq ?_
    refine W_seq ?_
    obtain ⟨g1, g2, h⟩ := gd2 h
    rcases Bool.eq_false_or_eq_true (decide ((((l0.getD i5_1.toNat []).length : Nat) : Int) < (1 : Int))) with g3 | g3
    ·replace h := bif_t h g3
     refine Vg hT fN [(6, true)] [] [0, 1] ⟨[(0, kH 0), (4, kH 1), (5, kI i5_1), (33, kB true)], [], [⟨(.dp false), 47, 1, l0.length, .d (.sl 46 (.pr (.wo 92) (.pr .u8 (.by 5)))) l0⟩, nb 5 l4_1]⟩ (aP g1 (aP g2 (aP g3 aN))) ?_
     refine Vi (true) (fun _ => ?_) (fun hb => by cases hb)
     refine Vrs hT [] ⟨[(2, .c (.nils)), (3, kB false)], [], []⟩ ?_
     refine Vc [.nil 2 5 1 (.b [])] [0] (rWrite_R ([], false)) (W_ret ?_)
     exact ⟨.inl rfl, by cases h; rfl⟩
    ·replace h := bif_f h g3
     obtain ⟨g4, g5, h⟩ := gd2 h
     refine Vg hT fN [(6, false)] [] [0, 1] ⟨[(0, kH 0), (4, kH 1), (5, kI i5_1), (33, kB (decide ((4 : Int) < (((l0.getD i5_1.toNat []).length : Nat) : Int))))], [], [⟨(.dp false), 47, 1, l0.length, .d (.sl 46 (.pr (.wo 92) (.pr .u8 (.by 5)))) l0⟩, nb 5 l4_1]⟩ (aP g1 (aP g2 (aP g3 (aP g4 (aP g5 aN))))) ?_
     refine Vi ((decide ((4 : Int) < (((l0.getD i5_1.toNat []).length : Nat) : Int)))) (fun g24 => ?_) (fun g24 => ?_)
     ·replace h := bif_t h g24
      refine Vrs hT [] ⟨[(2, .c (.nils)), (3, kB false)], [], []⟩ ?_
      refine Vc [.nil 2 5 1 (.b [])] [0] (rWrite_R ([], false)) (W_ret ?_)
      exact ⟨.inl rfl, by cases h; rfl⟩
     ·replace h := bif_f h g24
      refine W_skip ?_
      refine Vrs hT [0, 1] ⟨[(0, kH 0), (4, kH 1), (5, kI i5_1), (6, .c (.nils))], [], [⟨(.dp false), 47, 1, l0.length, .d (.sl 46 (.pr (.wo 92) (.pr .u8 (.by 5)))) l0⟩, nb 5 l4_1]⟩ ?_
      refine Vrs hT [0, 1] ⟨[(0, kH 0), (4, kH 1), (5, kI i5_1), (6, .c (.nils)), (7, kT ([] : List UInt8))], [], [⟨(.dp false), 47, 1, l0.length, .d (.sl 46 (.pr (.wo 92) (.pr .u8 (.by 5)))) l0⟩, nb 5 l4_1]⟩ ?_
      refine W_seq ?_
      refine Vrs hT [0, 1] ⟨[(0, kH 0), (4, kH 1), (5, kI i5_1), (6, .c (.nils)), (7, kT ([] : List UInt8)), (8, kI 0)], [], [⟨(.dp false), 47, 1, l0.length, .d (.sl 46 (.pr (.wo 92) (.pr .u8 (.by 5)))) l0⟩, nb 5 l4_1]⟩ ?_
      refine W_block ?_
      refine Vc [.nil 6 5 1 (.b [])] [0, 1, 2] (rWrite_l2_E l0 l4_1 i5_1 [] ([] : List UInt8) 0) (W_lp ((rWrite_l2_P n l0 l4_1 i5_1 (rWrite_l1 n l0 fu_l1) r)) n ⟨_, _, _, rfl, h⟩ ?_)
      rintro fu_l2 _ ⟨l6_5, l7_5, i8_5, rfl, h⟩
      cases fu_l2 with
      | zero => cases h
      | succ fu_l2 =>
       refine ⟨fu_l2, rfl, ?_⟩
       rw [rWrite_l2] at h
       refine W_seq ?_
       obtain ⟨g6, g7, h⟩ := gd2 h
       refine Vgs hT fN [] [] [0, 1, 2] ⟨[(0, kH 0), (4, kH 1), (5, kI i5_1), (6, kH 2), (7, kT l7_5), (8, kI i8_5), (40, kB (decide (i8_5 < (((l0.getD i5_1.toNat []).length : Nat) : Int))))], [], [⟨(.dp false), 47, 1, l0.length, .d (.sl 46 (.pr (.wo 92) (.pr .u8 (.by 5)))) l0⟩, nb 5 l4_1, nb 5 l6_5]⟩ (aP g6 (aP g7 aN)) ?_
       refine Vi ((decide (i8_5 < (((l0.getD i5_1.toNat []).length : Nat) : Int)))) (fun g23 => ?_) (fun g23 => ?_)
       ·replace h := bif_t h g23
        refine W_skip ?_
        refine W_seq ?_
        refine W_block ?_
        obtain ⟨g8, g9, g10, g11, h⟩ := gd4 h
        obtain ⟨r51_8, g12, h⟩ := bind_some' h
        refine Vgs hT (fT 7 (rAttr_ok n r51_8) fN) [] [] [0, 1, 2, 3] ⟨[(0, kH 0), (4, kH 1), (5, kI i5_1), (6, kH 2), (7, kT l7_5), (8, kI i8_5), (9, kH 3), (10, kB r51_8.2)], [], [⟨(.dp false), 47, 1, l0.length, .d (.sl 46 (.pr (.wo 92) (.pr .u8 (.by 5)))) l0⟩, nb 5 l4_1, nb 5 l6_5, nb 5 r51_8.1]⟩ (aP g8 (aP g9 (aP g10 (aP g11 (aP g12 aN))))) ?_
        refine W_seq ?_
        refine W_seq ?_
        rcases Bool.eq_false_or_eq_true (!r51_8.2) with g13 | g13
        ·replace h := bif_t h g13
         refine Vg hT fN [(2, true)] [] [0, 1, 2, 3] ⟨[(0, kH 0), (4, kH 1), (5, kI i5_1), (6, kH 2), (8, kI i8_5), (9, kH 3), (65, kB true)], [], [⟨(.dp false), 47, 1, l0.length, .d (.sl 46 (.pr (.wo 92) (.pr .u8 (.by 5)))) l0⟩, nb 5 l4_1, nb 5 l6_5, nb 5 r51_8.1]⟩ (aP g13 aN) ?_
         refine Vi (true) (fun _ => ?_) (fun hb => by cases hb)
         refine Vrs hT [] ⟨[(2, .c (.nils)), (3, kB false)], [], []⟩ ?_
         refine Vc [.nil 2 5 1 (.b [])] [0] (rWrite_R ([], false)) (W_ret ?_)
         exact ⟨.inl rfl, by cases h; rfl⟩
        ·replace h := bif_f h g13
         rcases Bool.eq_false_or_eq_true (decide ((0 : Int) < i8_5)) with g14 | g14
         ·replace h := bif_t h g14
          refine Vg hT fN [(2, false), (5, true)] [] [0, 1, 2, 3] ⟨[(0, kH 0), (4, kH 1), (5, kI i5_1), (6, kH 2), (8, kI i8_5), (9, kH 3), (65, kB (!Op.bytesLess l7_5 r51_8.1))], [], [⟨(.dp false), 47, 1, l0.length, .d (.sl 46 (.pr (.wo 92) (.pr .u8 (.by 5)))) l0⟩, nb 5 l4_1, nb 5 l6_5, nb 5 r51_8.1]⟩ (aP g13 (aP g14 aN)) ?_
          refine Vi ((!Op.bytesLess l7_5 r51_8.1)) (fun g17 => ?_) (fun g17 => ?_)
          ·replace h := bif_t h g17
           refine Vrs hT [] ⟨[(2, .c (.nils)), (3, kB false)], [], []⟩ ?_
           refine Vc [.nil 2 5 1 (.b [])] [0] (rWrite_R ([], false)) (W_ret ?_)
           exact ⟨.inl rfl, by cases h; rfl⟩
          ·replace h := bif_f h g17
           refine W_skip ?_
           refine Vrs hT [0, 1, 2, 3] ⟨[(0, kH 0), (4, kH 1), (5, kI i5_1), (6, kH 2), (7, kT r51_8.1), (8, kI i8_5), (9, kH 3)], [], [⟨(.dp false), 47, 1, l0.length, .d (.sl 46 (.pr (.wo 92) (.pr .u8 (.by 5)))) l0⟩, nb 5 l4_1, nb 5 l6_5, nb 5 r51_8.1]⟩ ?_
           obtain ⟨g15, h⟩ := gd_some h
           refine Vg hT fN [] [] [0, 1, 4] ⟨[(0, kH 0), (4, kH 1), (5, kI i5_1), (6, kH 2), (7, kT r51_8.1), (8, kI i8_5)], [], [⟨(.dp false), 47, 1, l0.length, .d (.sl 46 (.pr (.wo 92) (.pr .u8 (.by 5)))) l0⟩, nb 5 l4_1, nb 5 (l6_5 ++ r51_8.1)]⟩ (aP g15 aN) ?_
           obtain ⟨g16, h⟩ := gd_some h
           refine Vg hT fN [] [] [0, 1, 2] (rWrite_l2_E l0 l4_1 i5_1 (l6_5 ++ r51_8.1) r51_8.1 (i8_5 + 1)) (aP g16 aN) ?_
           exact ⟨_, _, _, rfl, h⟩
         ·replace h := bif_f h g14
          refine Vg hT fN [(2, false), (5, false)] [] [0, 1, 2, 3] ⟨[(0, kH 0), (4, kH 1), (5, kI i5_1), (6, kH 2), (8, kI i8_5), (9, kH 3), (65, kB false)], [], [⟨(.dp false), 47, 1, l0.length, .d (.sl 46 (.pr (.wo 92) (.pr .u8 (.by 5)))) l0⟩, nb 5 l4_1, nb 5 l6_5, nb 5 r51_8.1]⟩ (aP g13 (aP g14 aN)) ?_
          refine Vi (false) (fun hb => by cases hb) (fun _ => ?_)
          refine W_skip ?_
          refine Vrs hT [0, 1, 2, 3] ⟨[(0, kH 0), (4, kH 1), (5, kI i5_1), (6, kH 2), (7, kT r51_8.1), (8, kI i8_5), (9, kH 3)], [], [⟨(.dp false), 47, 1, l0.length, .d (.sl 46 (.pr (.wo 92) (.pr .u8 (.by 5)))) l0⟩, nb 5 l4_1, nb 5 l6_5, nb 5 r51_8.1]⟩ ?_
          obtain ⟨g18, h⟩ := gd_some h
          refine Vg hT fN [] [] [0, 1, 4] ⟨[(0, kH 0), (4, kH 1), (5, kI i5_1), (6, kH 2), (7, kT r51_8.1), (8, kI i8_5)], [], [⟨(.dp false), 47, 1, l0.length, .d (.sl 46 (.pr (.wo 92) (.pr .u8 (.by 5)))) l0⟩, nb 5 l4_1, nb 5 (l6_5 ++ r51_8.1)]⟩ (aP g18 aN) ?_
          obtain ⟨g19, h⟩ := gd_some h
          refine Vg hT fN [] [] [0, 1, 2] (rWrite_l2_E l0 l4_1 i5_1 (l6_5 ++ r51_8.1) r51_8.1 (i8_5 + 1)) (aP g19 aN) ?_
          exact ⟨_, _, _, rfl, h⟩
       ·replace h := bif_f h g23
        refine Vc [] [0, 1, 2] ⟨[(0, kH 0), (4, kH 1), (5, kI i5_1), (6, kH 2)], [], [⟨(.dp false), 47, 1, l0.length, .d (.sl 46 (.pr (.wo 92) (.pr .u8 (.by 5)))) l0⟩, nb 5 l4_1, nb 5 l6_5]⟩ (W_exit ?_)
        obtain ⟨r73_5, g20, h⟩ := bind_some' h
        obtain ⟨g21, h⟩ := gd_some h
        refine Vg hT (fT 2 (rEl_ok n r73_5) fN) [] [] [0, 4] ⟨[(0, kH 0), (4, kH 1), (5, kI i5_1)], [], [⟨(.dp false), 47, 1, l0.length, .d (.sl 46 (.pr (.wo 92) (.pr .u8 (.by 5)))) l0⟩, nb 5 (l4_1 ++ r73_5)]⟩ (aP g20 (aP g21 aN)) ?_
        obtain ⟨g22, h⟩ := gd_some h
        refine Vg hT fN [] [] [0, 1] (rWrite_l1_E l0 (l4_1 ++ r73_5) (i5_1 + 1)) (aP g22 aN) ?_
        exact ⟨_, _, rfl, h⟩
   ·replace h := bif_f h g26
    refine Vc [] [1] ⟨[(4, kH 0)], [], [nb 5 l4_1]⟩ (W_exit ?_)
    obtain ⟨r76_1, g25, h⟩ := bind_some' h
    refine Vgs hT (fT 1 (rEl_ok n r76_1) fN) [] [] [1] ⟨[(2, kH 0), (3, kB true)], [], [nb 5 r76_1]⟩ (aP g25 aN) ?_
    refine Vc [] [0] (rWrite_R (r76_1, true)) (W_ret ?_)
    exact ⟨.inl rfl, by cases h; rfl⟩
end Go.Proofs.Ytobfglafchoipaa
end
section
namespace Go.Sx
open Go Go.RowKit Go.Ch Go.Proofs.Ytobfglafchoipaa
theorem mk_all : ∀ i : Fin 256, ((UInt8.ofNat i.1 &&& 31) != 31) = ((UInt8.ofNat i.1 % 32) != 31) := by decide +kernel
theorem mk_eq (x : UInt8) : ((x &&& 31) != 31) = ((x % 32) != 31) := by simpa using mk_all ⟨x.toNat, x.toNat_lt⟩
theorem tvalid_is (n : Nat) (x : UInt8) : tvalid n x = some (x % 32 != 31) := by unfold tvalid; rw [mk_eq]
theorem ofInt_mod (x : Int) : UInt8.ofInt (x % 256) = UInt8.ofInt x := by
 unfold UInt8.ofInt; congr 2; omega
def hdF (m : UInt8) (k : Int) : List UInt8 := bif decide (k < 128) then [m, UInt8.ofInt k] else bif decide (k < 256) then [m, 129, UInt8.ofInt k] else [m, 130, UInt8.ofInt (k / 256), UInt8.ofInt k]
theorem hdF_len (m : UInt8) (k : Int) : (hdF m k).length ≤ 4 := by
 unfold hdF; cases decide (k < 128) with
 | true => simp
 | false => cases decide (k < 256) with
  | true => simp
  | false => simp
theorem tHead_is (n : Nat) {m : UInt8} {k : Int} (hm : (m % 32 != 31) = true) (h0 : 0 ≤ k) (h1 : k ≤ 65535) : tHead n m k = some (hdF m k, none) := by
 unfold tHead hdF
 rw [tvalid_is, Option.bind_some, ite_f (by rw [hm]; rfl), ite_f (decide_eq_false (by omega)), ite_f (decide_eq_false (by omega))]
 cases decide (k < 128) with
 | true => rfl
 | false => cases decide (k < 256) with
  | true => rfl
  | false => simp only [cond_false]; rw [gd_pos (by decide), gd_pos (by decide)]; rfl
theorem rHead_is (n : Nat) {m : UInt8} {k : Int} (h0 : 0 ≤ k) (h1 : k ≤ 9223372036854775807) : rHead n m k = some (hdF m k) := by
 unfold rHead hdF
 cases decide (k < 128) with
 | true => rfl
 | false => cases decide (k < 256) with
  | true => rfl
  | false =>
   simp only [cond_false]
   have e : Int.tdiv k 256 = k / 256 := Int.tdiv_eq_ediv_of_nonneg h0
   have e2 : Int.tmod k 256 = k % 256 := Int.tmod_eq_emod_of_nonneg h0
   rw [gd_pos (by decide), e, e2, gd_pos (okI64 (by omega) (by omega)), gd_pos (by decide), ofInt_mod]
theorem rEl_is (n : Nat) (m : UInt8) {b : List UInt8} (h : b.length ≤ 1000000) : rEl n m b = some (hdF m (b.length : Int) ++ b) := by
 unfold rEl
 have := hdF_len m (b.length : Int)
 rw [rHead_is n (by omega) (by omega), Option.bind_some, gd_pos (by unfold rmB; omega)]
end Go.Sx
end
section
namespace Go.Sx
open Go Go.RowKit Go.Ch Go.Proofs.Ytobfglafchoipaa
theorem bodyOf_len {l : List UInt32} (h : oidOk l = true) : (bodyOf l).length ≤ 102 := by
 have := oidOk_len h
 have h1 := grp_len (40 * l.getD 0 0 + l.getD 1 0)
 have h2 := grps_len (l.drop 2)
 unfold bodyOf
 rw [List.length_append]; rw [List.length_drop] at h2; omega
def mkOk (m : UInt8) : Bool := m == 12 || m == 19
theorem mkOk_or {m : UInt8} (h : mkOk m = true) : m = 12 ∨ m = 19 := by unfold mkOk at h; simpa using h
def atOk (x : AttrT) : Bool := mkOk x.2.1 && (decide (1 ≤ x.2.2.length) && (decide (x.2.2.length ≤ 64) && (oidOk x.1 && txOk x.2.1 x.2.2)))
def elF (m : UInt8) (b : List UInt8) : List UInt8 := hdF m (b.length : Int) ++ b
theorem elF_len (m : UInt8) (b : List UInt8) : (elF m b).length ≤ 4 + b.length := by
 have := hdF_len m (b.length : Int)
 unfold elF; rw [List.length_append]; omega
def atF (x : AttrT) : List UInt8 := elF 48 (elF 6 (bodyOf x.1) ++ elF x.2.1 x.2.2)
theorem atOk_parts {x : AttrT} (h : atOk x = true) : mkOk x.2.1 = true ∧ 1 ≤ x.2.2.length ∧ x.2.2.length ≤ 64 ∧ oidOk x.1 = true ∧ txOk x.2.1 x.2.2 = true := by
 unfold atOk at h; simpa using h
theorem atF_len {x : AttrT} (h : atOk x = true) : (atF x).length ≤ 200 := by
 obtain ⟨_, _, h3, h4, _⟩ := atOk_parts h
 have e1 := elF_len 48 (elF 6 (bodyOf x.1) ++ elF x.2.1 x.2.2)
 have e2 := elF_len 6 (bodyOf x.1)
 have e3 := elF_len x.2.1 x.2.2
 have e4 := bodyOf_len h4
 unfold atF; rw [List.length_append] at e1; omega
theorem rEl_el (n : Nat) (m : UInt8) {b : List UInt8} (h : b.length ≤ 1000000) : rEl n m b = some (elF m b) := rEl_is n m h
theorem tisW_12 (n : Nat) {m : UInt8} (hm : m = 6 ∨ m = 12 ∨ m = 19) : tisW n m = some false ∧ (m % 32 != 31) = true := by rcases hm with rfl | rfl | rfl <;> exact ⟨rfl, by decide⟩
theorem wPut2_is {n : Nat} {m : UInt8} (hm : m = 6 ∨ m = 12 ∨ m = 19) {a b : List UInt8} (ha : a.length ≤ 100000) (hb : b.length ≤ 60000) : wPut2 n 0 [] 48 a m b = some (a ++ elF m b) := by
 have := hdF_len m (b.length : Int)
 unfold wPut2 wadd2
 rw [tvalid_is, Option.bind_some, (tisW_12 n hm).2, ite_f (by rfl), (tisW_12 n hm).1, Option.bind_some, ite_f (by rfl), tHead_is n (tisW_12 n hm).2 (by omega) (by omega), Option.bind_some, ite_f (by rfl)]
 rw [gd_pos (by decide), gd_pos (by decide), gd_pos (by decide), gd_pos (by decide), gd_pos (by unfold rmB; simp; omega), gd_pos (by unfold rmB; simp; omega), gd_pos (by decide), Option.bind_some]
 unfold elF; rw [List.append_assoc]
theorem wClose2_is {n : Nat} {b : List UInt8} (hb : b.length ≤ 60000) : wClose2 n 0 [] 48 b = some (elF 48 b) := by
 have := hdF_len 48 (b.length : Int)
 unfold wClose2 wadd1 elF
 rw [gd_pos (by decide), gd_pos (by decide), gd_pos (by decide), gd_pos (by decide), gd_pos (by decide), gd_pos (by decide), gd_pos (by decide), tHead_is n (by decide) (by omega) (by omega), Option.bind_some, ite_f (by rfl)]
 rw [gd_pos (by decide), gd_pos (by decide), gd_pos (by decide), gd_pos (by decide), gd_pos (by unfold rmB; simp; omega), gd_pos (by unfold rmB; simp; omega), gd_pos (by decide), Option.bind_some, List.nil_append]
theorem wAttr {n : Nat} {o t : List UInt8} {m : UInt8} (hm : m = 12 ∨ m = 19) (ho : o.length ≤ 1000) (ht : t.length ≤ 1000) :
  (wNew n).bind (fun _ => (wOpen1 n 0 [] 48).bind fun _ => (wPut2 n 0 [] 48 [] 6 o).bind fun r51 => (wPut2 n 0 [] 48 r51 m t).bind fun r57 => (wClose2 n 0 [] 48 r57).bind fun r59 => (wBytes1 n 0 r59).bind fun _ => some (r59, (none : Option Int))) = some (elF 48 (elF 6 o ++ elF m t), none) := by
 have h1 := elF_len 6 o
 have h2 := elF_len m t
 have h3 := elF_len 48 (elF 6 o ++ elF m t)
 rw [List.length_append] at h3
 have ew : wOpen1 n 0 [] 48 = some () := by
  unfold wOpen1
  rw [tvalid_is, Option.bind_some, ite_f (by decide), show tisW n 48 = some true from rfl, Option.bind_some, ite_f (by rfl), gd_pos (by unfold rmB; omega)]
 have eb : wBytes1 n 0 (elF 48 (elF 6 o ++ elF m t)) = some () := by
  unfold wBytes1; rw [gd_pos (by decide), gd_pos (by decide), gd_pos (by decide), gd_pos (by omega)]
 rw [show wNew n = some () from rfl, Option.bind_some, ew, Option.bind_some, wPut2_is (.inl rfl) (by simp) (by omega), Option.bind_some, List.nil_append, wPut2_is (.inr hm) (by omega) (by omega), Option.bind_some, wClose2_is (by simp; omega), Option.bind_some, eb, Option.bind_some]
theorem nAttr_is {n : Nat} (hn : 3000 ≤ n) {x : AttrT} : nAttr n x.1 x.2.1 x.2.2 = some (if atOk x = true then (atF x, none) else ([], some 1)) := by
 obtain ⟨ty, mk, tx⟩ := x
 simp only
 have rest : oidOk ty = true → mkOk mk = true → (bif (decide (((tx.length : Nat) : Int) < (1 : Int))) then some (([], some 1) : List UInt8 × Option Int) else
    bif (decide ((64 : Int) < ((tx.length : Nat) : Int))) then some ([], (some 1)) else
     (pText n mk tx).bind fun r42 =>
     bif (!((r42).isNone)) then some ([], (some 1)) else
      (wNew n).bind fun _ => (wOpen1 n 0 [] 48).bind fun _ => (wPut2 n 0 [] 48 [] 6 (bodyOf ty)).bind fun r51 => (wPut2 n 0 [] 48 r51 mk tx).bind fun r57 => (wClose2 n 0 [] 48 r57).bind fun r59 => (wBytes1 n 0 r59).bind fun _ => some (r59, none)) = some (if atOk (ty, mk, tx) = true then (atF (ty, mk, tx), none) else ([], some 1)) := by
  intro ho hm
  have e : atOk (ty, mk, tx) = (decide (1 ≤ tx.length) && (decide (tx.length ≤ 64) && txOk mk tx)) := by unfold atOk; simp only [ho, hm, Bool.true_and]
  rw [e]
  by_cases h1 : tx.length < 1
  ·rw [ite_t (decide_eq_true (by omega)), decide_eq_false (show ¬ 1 ≤ tx.length by omega)]; rfl
  ·rw [ite_f (decide_eq_false (by omega)), decide_eq_true (show 1 ≤ tx.length by omega), Bool.true_and]
   by_cases h2 : 64 < tx.length
   ·rw [ite_t (decide_eq_true (by omega)), decide_eq_false (show ¬ tx.length ≤ 64 by omega)]; rfl
   ·rw [ite_f (decide_eq_false (by omega)), decide_eq_true (show tx.length ≤ 64 by omega), Bool.true_and, pText_is (mkOk_or hm) tx (by omega), Option.bind_some]
    cases txOk mk tx with
    | false => rfl
    | true =>
     have := bodyOf_len ho
     exact wAttr (mkOk_or hm) (by omega) (by omega)
 unfold nAttr
 rw [pOid_is (by omega), Option.bind_some]
 cases ho : oidOk ty with
 | false =>
  have e : atOk (ty, mk, tx) = false := by unfold atOk; simp [ho]
  rw [e]; rfl
 | true =>
  rw [if_pos rfl]
  rw [show (!((((bodyOf ty, none) : List UInt8 × Option Int).2).isNone)) = false from rfl]
  simp only [cond_false]
  by_cases hc : mk = 12
  ·rw [ite_f (by rw [hc]; decide)]
   exact rest ho (by rw [hc]; rfl)
  ·rw [ite_t (by simpa using hc)]
   by_cases hd : mk = 19
   ·rw [ite_f (by rw [hd]; decide)]
    exact rest ho (by rw [hd]; rfl)
   ·rw [ite_t (by simpa using hd)]
    have e : atOk (ty, mk, tx) = false := by unfold atOk mkOk; simp [hc, hd]
    rw [e]; rfl
theorem rAttr_is {n : Nat} (hn : 3000 ≤ n) {x : AttrT} : rAttr n x.1 x.2.1 x.2.2 = some (if atOk x = true then (atF x, true) else ([], false)) := by
 obtain ⟨ty, mk, tx⟩ := x
 simp only
 have rest : mkOk mk = true → (bif (decide (((tx.length : Nat) : Int) < (1 : Int))) then some (([], false) : List UInt8 × Bool) else
    bif (decide ((64 : Int) < ((tx.length : Nat) : Int))) then some ([], false) else
     (rOid n ty).bind fun r27 =>
     bif (!r27) then some ([], false) else
      (rText n mk tx).bind fun r34 =>
      bif (!r34) then some ([], false) else
       (rOidBody n ty).bind fun r39 =>
       (rEl n 6 r39).bind fun r40 =>
       (rEl n mk tx).bind fun r45 =>
       gd (rmB (r40.length + r45.length) 1) <|
       (rEl n 48 (r40 ++ r45)).bind fun r48 =>
       some (r48, true)) = some (if atOk (ty, mk, tx) = true then (atF (ty, mk, tx), true) else ([], false)) := by
  intro hm
  have e : atOk (ty, mk, tx) = (decide (1 ≤ tx.length) && (decide (tx.length ≤ 64) && (oidOk ty && txOk mk tx))) := by unfold atOk; simp only [hm, Bool.true_and]
  rw [e]
  by_cases h1 : tx.length < 1
  ·rw [ite_t (decide_eq_true (by omega)), decide_eq_false (show ¬ 1 ≤ tx.length by omega)]; rfl
  ·rw [ite_f (decide_eq_false (by omega)), decide_eq_true (show 1 ≤ tx.length by omega), Bool.true_and]
   by_cases h2 : 64 < tx.length
   ·rw [ite_t (decide_eq_true (by omega)), decide_eq_false (show ¬ tx.length ≤ 64 by omega)]; rfl
   ·rw [ite_f (decide_eq_false (by omega)), decide_eq_true (show tx.length ≤ 64 by omega), Bool.true_and, rOid_is, Option.bind_some]
    cases ho : oidOk ty with
    | false => rfl
    | true =>
     rw [ite_f (by rfl), rText_is (mkOk_or hm) tx (by omega) hn, Option.bind_some, Bool.true_and]
     cases txOk mk tx with
     | false => rfl
     | true =>
      have hl := oidOk_len ho
      have h3 := bodyOf_len ho
      have e1 := elF_len 6 (bodyOf ty)
      have e2 := elF_len mk tx
      rw [ite_f (by rfl), rOidBody_is (by omega) hl.1 (by omega), Option.bind_some, rEl_el n 6 (by omega), Option.bind_some, rEl_el n mk (by omega), Option.bind_some, gd_pos (by unfold rmB; omega), rEl_el n 48 (by simp; omega), Option.bind_some]
      rfl
 unfold rAttr
 by_cases hc : mk = 12
 ·rw [ite_f (by rw [hc]; decide)]
  exact rest (by rw [hc]; rfl)
 ·rw [ite_t (by simpa using hc)]
  by_cases hd : mk = 19
  ·rw [ite_f (by rw [hd]; decide)]
   exact rest (by rw [hd]; rfl)
  ·rw [ite_t (by simpa using hd)]
   have e : atOk (ty, mk, tx) = false := by unfold atOk mkOk; simp [hc, hd]
   rw [e]; rfl
theorem cmp_less : ∀ a b : List UInt8, decide ((0 : Int) ≤ Lib.compareBytes a b) = !Op.bytesLess a b
 | [], [] => rfl
 | [], _ :: _ => by simp [Lib.compareBytes, Op.bytesLess]
 | _ :: _, [] => by simp [Lib.compareBytes, Op.bytesLess]
 | x :: a, y :: b => by
  have ih := cmp_less a b
  unfold Lib.compareBytes Op.bytesLess
  by_cases h : x < y
  ·simp [h]
  ·by_cases h2 : y < x
   ·have : x ≠ y := fun e => UInt8.lt_irrefl y (by rw [e] at h2; exact h2)
    simp [h, h2, this]
   ·have : x = y := by
     have h3 := UInt8.not_lt.1 h
     have h4 := UInt8.not_lt.1 h2
     exact UInt8.le_antisymm h4 h3
    simp [h, h2, this, ih]
def stpF : List AttrT → Bool → List UInt8 → Option (List UInt8)
 | [], _, _ => some []
 | x :: t, fst, last => if (atOk x && (fst || Op.bytesLess last (atF x))) = true then (stpF t false (atF x)).map (atF x ++ ·) else none
theorem stpF_len : ∀ (l : List AttrT) (f : Bool) (last y : List UInt8), stpF l f last = some y → y.length ≤ 200 * l.length
 | [], _, _, y, h => by injection h with h; rw [← h]; simp
 | x :: t, f, last, y, h => by
  rw [stpF] at h
  split at h
  ·rename_i hc
   obtain ⟨z, hz, rfl⟩ := Option.map_eq_some_iff.1 h
   have h1 := stpF_len t false (atF x) z hz
   have h2 := atF_len (x := x) (by simp at hc; exact hc.1)
   rw [List.length_append, List.length_cons]; omega
  ·cases h
abbrev nmT := List (List AttrT)
def nKa (n : Nat) (l4 : List UInt8) (j : Int) (K : List UInt8 → Int → Option (List UInt8 × Option Int)) : Option (List UInt8) → Option (List UInt8 × Option Int)
 | none => some ([], some 1)
 | some y => K (l4 ++ elF 49 y) (j + 1)
def rKa (l4 : List UInt8) (j : Int) (K : List UInt8 → Int → Option (List UInt8 × Bool)) : Option (List UInt8) → Option (List UInt8 × Bool)
 | none => some ([], false)
 | some y => K (l4 ++ elF 49 y) (j + 1)
theorem nw_l2 {n : Nat} (hn : 3000 ≤ n) {a : nmT} {j : Nat} (hj : j < a.length) (hj8 : a.length ≤ 8) (l4 : List UInt8) (hl4 : l4.length ≤ 100000) (h4 : (a.getD j []).length ≤ 4) (K : List UInt8 → Int → Option (List UInt8 × Option Int)) :
  ∀ (fu i : Nat) (acc last : List UInt8), (a.getD j []).length < i + fu → i ≤ (a.getD j []).length → acc.length ≤ 200 * i →
   nWrite_l2 n a l4 (j : Int) K fu acc last (i : Int) = nKa n l4 (j : Int) K ((stpF ((a.getD j []).drop i) (decide (i = 0)) last).map (acc ++ ·))
 | 0, i, acc, last, h, h1, h2 => by omega
 | fu + 1, i, acc, last, h, h1, h2 => by
  rw [nWrite_l2]
  simp only [Int.toNat_natCast]
  by_cases hi : i < (a.getD j []).length
  ·rw [ite_t (decide_eq_true (by omega)), gd_pos (by omega), gd_pos (by omega), nAttr_is hn, Option.bind_some, drop_at (z := ([], (0, []))) hi, stpF]
   generalize hx : (a.getD j []).getD i ([], (0, [])) = x
   cases ho : atOk x with
   | false => simp [nKa]
   | true =>
    have hal := atF_len ho
    simp only [if_pos, Bool.true_and]
    rw [ite_f (by rfl)]
    have go : nWrite_l2 n a l4 (j : Int) K fu (acc ++ atF x) (atF x) ((i : Int) + 1) = nKa n l4 (j : Int) K ((stpF ((a.getD j []).drop (i + 1)) false (atF x)).map ((acc ++ atF x) ++ ·)) := by
     have := nw_l2 hn hj hj8 l4 hl4 h4 K fu (i + 1) (acc ++ atF x) (atF x) (by omega) hi (by rw [List.length_append]; omega)
     rw [show decide (i + 1 = 0) = false from decide_eq_false (by omega)] at this
     exact this
    have e2 : ∀ o : Option (List UInt8), (o.map (atF x ++ ·)).map (acc ++ ·) = o.map ((acc ++ atF x) ++ ·) := fun o => by cases o <;> simp
    by_cases h0 : i = 0
    ·rw [ite_f (decide_eq_false (by omega)), gd_pos (by unfold rmB; omega), gd_pos (okI64 (by omega) (by omega)), go, decide_eq_true h0, Bool.true_or, if_pos rfl, e2]
    ·rw [ite_t (decide_eq_true (by omega)), cmp_less, decide_eq_false h0, Bool.false_or]
     cases Op.bytesLess last (atF x) with
     | false => simp [nKa]
     | true => rw [ite_f (by rfl), gd_pos (by unfold rmB; omega), gd_pos (okI64 (by omega) (by omega)), go, if_pos rfl, e2]
  ·rw [ite_f (decide_eq_false (by omega)), tHead_is n (by decide) (by omega) (by omega), Option.bind_some, ite_f (by rfl), List.drop_of_length_le (by omega)]
   have := hdF_len 49 (acc.length : Int)
   rw [gd_pos (by unfold rmB; simp only; omega), gd_pos (by unfold rmB; simp only [List.length_append]; omega), gd_pos (okI64 (by omega) (by omega))]
   simp [stpF, nKa, elF]
theorem rw_l2 {n : Nat} (hn : 3000 ≤ n) {a : nmT} {j : Nat} (hj : j < a.length) (hj8 : a.length ≤ 8) (l4 : List UInt8) (hl4 : l4.length ≤ 100000) (h4 : (a.getD j []).length ≤ 4) (K : List UInt8 → Int → Option (List UInt8 × Bool)) :
  ∀ (fu i : Nat) (acc last : List UInt8), (a.getD j []).length < i + fu → i ≤ (a.getD j []).length → acc.length ≤ 200 * i →
   rWrite_l2 n a l4 (j : Int) K fu acc last (i : Int) = rKa l4 (j : Int) K ((stpF ((a.getD j []).drop i) (decide (i = 0)) last).map (acc ++ ·))
 | 0, i, acc, last, h, h1, h2 => by omega
 | fu + 1, i, acc, last, h, h1, h2 => by
  rw [rWrite_l2]
  simp only [Int.toNat_natCast]
  rw [gd_pos (by omega), gd_pos (by omega)]
  by_cases hi : i < (a.getD j []).length
  ·rw [ite_t (decide_eq_true (by omega)), gd_pos (by omega), gd_pos (by omega), gd_pos (by omega), gd_pos (by omega), rAttr_is hn, Option.bind_some, drop_at (z := ([], (0, []))) hi, stpF]
   generalize hx : (a.getD j []).getD i ([], (0, [])) = x
   cases ho : atOk x with
   | false => simp [rKa]
   | true =>
    have hal := atF_len ho
    simp only [if_pos, Bool.true_and]
    rw [ite_f (by rfl)]
    have go : rWrite_l2 n a l4 (j : Int) K fu (acc ++ atF x) (atF x) ((i : Int) + 1) = rKa l4 (j : Int) K ((stpF ((a.getD j []).drop (i + 1)) false (atF x)).map ((acc ++ atF x) ++ ·)) := by
     have := rw_l2 hn hj hj8 l4 hl4 h4 K fu (i + 1) (acc ++ atF x) (atF x) (by omega) hi (by rw [List.length_append]; omega)
     rw [show decide (i + 1 = 0) = false from decide_eq_false (by omega)] at this
     exact this
    have e2 : ∀ o : Option (List UInt8), (o.map (atF x ++ ·)).map (acc ++ ·) = o.map ((acc ++ atF x) ++ ·) := fun o => by cases o <;> simp
    by_cases h0 : i = 0
    ·rw [ite_f (decide_eq_false (by omega)), gd_pos (by unfold rmB; omega), gd_pos (okI64 (by omega) (by omega)), go, decide_eq_true h0, Bool.true_or, if_pos rfl, e2]
    ·rw [ite_t (decide_eq_true (by omega)), decide_eq_false h0, Bool.false_or]
     cases Op.bytesLess last (atF x) with
     | false => simp [rKa]
     | true => rw [ite_f (by rfl), gd_pos (by unfold rmB; omega), gd_pos (okI64 (by omega) (by omega)), go, if_pos rfl, e2]
  ·have := elF_len 49 acc
   rw [ite_f (decide_eq_false (by omega)), rEl_el n 49 (by omega), Option.bind_some, List.drop_of_length_le (by omega), gd_pos (by unfold rmB; omega), gd_pos (okI64 (by omega) (by omega))]
   simp [stpF, rKa]
def nm : nmT → Option (List UInt8)
 | [] => some []
 | s :: t => if 1 ≤ s.length ∧ s.length ≤ 4 then (match stpF s true [] with | none => none | some y => (nm t).map (elF 49 y ++ ·)) else none
theorem nm_len : ∀ (a : nmT) (y : List UInt8), nm a = some y → y.length ≤ 804 * a.length
 | [], y, h => by injection h with h; rw [← h]; simp
 | s :: t, y, h => by
  rw [nm] at h
  split at h
  ·rename_i hc
   split at h
   ·cases h
   ·rename_i z hz
    obtain ⟨q, hq, rfl⟩ := Option.map_eq_some_iff.1 h
    have h1 := nm_len t q hq
    have h2 := stpF_len s true [] z hz
    have h3 := elF_len 49 z
    rw [List.length_append, List.length_cons]; omega
  ·cases h
def nmA (a : nmT) : Option (List UInt8) := if a.length ≤ 8 then (nm a).map (elF 48 ·) else none
theorem nw_l1 {n : Nat} (hn : 3000 ≤ n) {a : nmT} (h8 : a.length ≤ 8) : ∀ (fu j : Nat) (acc : List UInt8), a.length < j + fu → j ≤ a.length → acc.length ≤ 804 * j →
   nWrite_l1 n a fu acc (j : Int) = some (match (nm (a.drop j)).map (acc ++ ·) with | none => ([], some 1) | some y => (elF 48 y, none))
 | 0, j, acc, h, h1, h2 => by omega
 | fu + 1, j, acc, h, h1, h2 => by
  rw [nWrite_l1]
  simp only [Int.toNat_natCast]
  by_cases hj : j < a.length
  ·rw [ite_t (decide_eq_true (by omega)), gd_pos (by omega), gd_pos (by omega), drop_at (z := []) hj, nm]
   by_cases c1 : (a.getD j []).length < 1
   ·rw [ite_t (decide_eq_true (by omega)), if_neg (by omega)]; rfl
   ·rw [ite_f (decide_eq_false (by omega))]
    by_cases c2 : 4 < (a.getD j []).length
    ·rw [ite_t (decide_eq_true (by omega)), if_neg (by omega)]; rfl
    ·rw [ite_f (decide_eq_false (by omega)), if_pos ⟨by omega, by omega⟩]
     have e := nw_l2 hn hj h8 acc (by omega) (by omega) (nWrite_l1 n a fu) n 0 [] [] (by omega) (by omega) (by simp)
     rw [show ((0 : Nat) : Int) = 0 from rfl] at e
     rw [e, List.drop_zero, show decide (0 = 0) = true from rfl]
     cases hs : stpF (a.getD j []) true [] with
     | none => simp [nKa]
     | some y =>
      have l1 := stpF_len _ _ _ _ hs
      have l2 := elF_len 49 y
      have := nw_l1 hn h8 fu (j + 1) (acc ++ elF 49 y) (by omega) hj (by rw [List.length_append]; omega)
      simp only [Option.map_some, nKa, List.nil_append]
      rw [show ((j : Int) + 1) = ((j + 1 : Nat) : Int) by omega, this]
      cases nm (a.drop (j + 1)) <;> simp
  ·have := hdF_len 48 (acc.length : Int)
   rw [ite_f (decide_eq_false (by omega)), tHead_is n (by decide) (by omega) (by omega), Option.bind_some, ite_f (by rfl), List.drop_of_length_le (by omega), gd_pos (by unfold rmB; simp only; omega)]
   simp [nm, elF]
theorem rw_l1 {n : Nat} (hn : 3000 ≤ n) {a : nmT} (h8 : a.length ≤ 8) : ∀ (fu j : Nat) (acc : List UInt8), a.length < j + fu → j ≤ a.length → acc.length ≤ 804 * j →
   rWrite_l1 n a fu acc (j : Int) = some (match (nm (a.drop j)).map (acc ++ ·) with | none => ([], false) | some y => (elF 48 y, true))
 | 0, j, acc, h, h1, h2 => by omega
 | fu + 1, j, acc, h, h1, h2 => by
  rw [rWrite_l1]
  simp only [Int.toNat_natCast]
  by_cases hj : j < a.length
  ·rw [ite_t (decide_eq_true (by omega)), gd_pos (by omega), gd_pos (by omega), drop_at (z := []) hj, nm]
   by_cases c1 : (a.getD j []).length < 1
   ·rw [ite_t (decide_eq_true (by omega)), if_neg (by omega)]; rfl
   ·rw [ite_f (decide_eq_false (by omega)), gd_pos (by omega), gd_pos (by omega)]
    by_cases c2 : 4 < (a.getD j []).length
    ·rw [ite_t (decide_eq_true (by omega)), if_neg (by omega)]; rfl
    ·rw [ite_f (decide_eq_false (by omega)), if_pos ⟨by omega, by omega⟩]
     have e := rw_l2 hn hj h8 acc (by omega) (by omega) (rWrite_l1 n a fu) n 0 [] [] (by omega) (by omega) (by simp)
     rw [show ((0 : Nat) : Int) = 0 from rfl] at e
     rw [e, List.drop_zero, show decide (0 = 0) = true from rfl]
     cases hs : stpF (a.getD j []) true [] with
     | none => simp [rKa]
     | some y =>
      have l1 := stpF_len _ _ _ _ hs
      have l2 := elF_len 49 y
      have := rw_l1 hn h8 fu (j + 1) (acc ++ elF 49 y) (by omega) hj (by rw [List.length_append]; omega)
      simp only [Option.map_some, rKa, List.nil_append]
      rw [show ((j : Int) + 1) = ((j + 1 : Nat) : Int) by omega, this]
      cases nm (a.drop (j + 1)) <;> simp
  ·rw [ite_f (decide_eq_false (by omega)), rEl_el n 48 (by omega), Option.bind_some, List.drop_of_length_le (by omega)]
   simp [nm]
theorem nWrite_is {n : Nat} (hn : 3000 ≤ n) {a : nmT} : nWrite n a = some (match nmA a with | none => ([], some 1) | some y => (y, none)) := by
 unfold nWrite nmA
 by_cases h8 : a.length ≤ 8
 ·rw [ite_f (decide_eq_false (by omega)), if_pos h8, show (0 : Int) = ((0 : Nat) : Int) from rfl, nw_l1 hn h8 n 0 [] (by omega) (by omega) (by simp), List.drop_zero]
  cases nm a <;> simp
 ·rw [ite_t (decide_eq_true (by omega)), if_neg h8]
theorem rWrite_is {n : Nat} (hn : 3000 ≤ n) {a : nmT} (hl : a.length ≤ 1000000) : rWrite n a = some (match nmA a with | none => ([], false) | some y => (y, true)) := by
 unfold rWrite nmA
 by_cases h8 : a.length ≤ 8
 ·rw [ite_f (decide_eq_false (by omega)), if_pos h8, show (0 : Int) = ((0 : Nat) : Int) from rfl, rw_l1 hn h8 n 0 [] (by omega) (by omega) (by simp), List.drop_zero]
  cases nm a <;> simp
 ·rw [ite_t (decide_eq_true (by omega)), if_neg h8]
end Go.Sx
end
section
namespace Go.Proofs.Ytobfglafchoipaa
open Go.RowKit Go.Ch Go.Sx Go.Lib Go.Shelf Go.Proofs
theorem cat_u8W : (Try.prog.info? 92).map (fun i => (i.zero, i.size, i.bytes)) = some (some (.int .u32 0), 1, 4) := by kernel_rfl
set_option maxHeartbeats 2000000 in
set_option maxRecDepth 100000 in
theorem grow_0W (w : World) : Calls Try.prog 88 #[.slice none 0 0, .int .i64 0] w (Ret fun v w' => Ext w w' ∧ Own w' w.heap.size 92 v []) := by
 go_enter Try.func88, Try.ntmps88
 go_wp2
 go_ret
 exact ⟨_, rfl, Below.refl _ _, World.ownsRow_nil _ _ _ _⟩
set_option maxHeartbeats 4000000 in
set_option maxRecDepth 100000 in
theorem grow_1W (w : World) (n : Nat) (h0 : 0 < n) (hn : n ≤ 1000000000000) : Calls Try.prog 88 #[.slice none 0 0, .int .i64 n] w (Ret fun v w' => Ext w w' ∧ Own w' w.heap.size 92 v []) := by
 obtain ⟨i0, hi0, hz0, hs0, hb0⟩ := info_parts cat_u8W
 have t22 : Try.prog.underlying 44 = some (.slice 92) := Try.underlying44
 have t3 : Try.prog.underlying 3 = some (.int .i64) := Try.underlying3
 have u22 := run_underlying t22
 have u3 := run_underlying t3
 have h1 : ¬ ((n : Int) < 0) := by omega
 have h3 : wrap64 ((n : Int) - 0) = (n : Int) := by unfold wrap64; omega
 have h4 : (n : Int) > 0 := by omega
 have hold : (Builtin.firstCells i0.size 0 (.slice none 0 0)).run Try.prog w.drew = .ok (#[] : Array Value) w.drew := run_firstCells_none w.drew i0.size 0 0 0
 have hrz : ∀ ty, (Builtin.append_ #[44, 3] ty #[.slice none 0 0, .int .i64 (n : Int)]).run Try.prog w =
   .ok (.slice (some ⟨w.heap.size, 0, none⟩) n (grownCap w n 0 92)) (w.drew.alloc (.cells (#[] ++ Builtin.zeroCells (Value.cells (.int .u32 0)) n ++ Builtin.zeroCells (Value.cells (.int .u32 0)) (grownCap w n 0 92 - n)) 92)) := fun ty => by
  have h := Lib.run_append_grow_zeros w 44 3 ty 92 i0 (.int .u32 0) .i64 .i64 t22 t3 hi0 hz0 none 0 0 [] hold n (by omega) (by omega) (by omega) (by omega)
   (by rw [hb0]; omega)
   (by have := growslice_fits (show 0 < n from h0) (show n * i0.bytes ≤ 140737488355328 by rw [hb0]; omega); simpa using this)
  simpa using h
 have hGn : n ≤ grownCap w n 0 92 := grownCap_ge w _ _ _
 have hGm := grownCap_le_maxLen w n 0 92 (by unfold maxLen; omega)
 obtain ⟨G, hG⟩ : ∃ G, G = grownCap w n 0 92 := ⟨_, rfl⟩
 rw [← hG] at hrz hGn hGm
 have hG63 : G ≤ 9223372036854775807 := by unfold maxLen at hGm; omega
 clear hold hG
 go_enter Try.func88, Try.ntmps88
 go_wp2_with (at_builtin; refine Lib.wpList_append_run _ rfl _ _ _ _ rfl _ _ rfl rfl _ _ (hrz _) ?_)
 all_goals
  go_ret
  refine ⟨_, rfl, ?_, rfl, .inr ⟨w.heap.size, G, Builtin.zeroCells #[Value.int .u32 0] n ++ Builtin.zeroCells #[Value.int .u32 0] (G - n), rfl, Nat.le_refl _, ?_, Nat.zero_le _, hGm, ?_, ?_⟩⟩
  ·exact ((Below.refl _ _).alloc (Nat.le_refl _) _).drew
  ·show (w.heap.push _)[w.heap.size]? = _
   exact Array.getElem?_push_size
  ·have hz : ∀ k, (Builtin.zeroCells #[Value.int .u32 0] k).size = k := fun k => by simp [Builtin.zeroCells]
   rw [Array.size_append, hz, hz]; omega
  ·simp
theorem grow_cW (w : World) (n : Nat) (hn : n ≤ 1000000000000) : Calls Try.prog 88 #[.slice none 0 0, .int .i64 n] w (Ret fun v w' => Ext w w' ∧ Own w' w.heap.size 92 v []) := by
 cases n with
 | zero => exact grow_0W w
 | succ n => exact grow_1W w (n + 1) (Nat.succ_pos _) hn
theorem cat_slW : (Try.prog.info? 44).map (fun i => (i.zero, i.size, i.bytes)) = some (some (.slice none 0 0), 1, 24) := by kernel_rfl
def SlSW (w : World) (vs : List Value) (ls : List (List UInt32)) : Prop := vs.length = ls.length ∧ ∀ i, i < ls.length → ∃ B, Sl w B (vs.getD i undef) ((ls.getD i []).map w32)
theorem flat_takeW (ls : List (List UInt32)) (k : Nat) (h : k < ls.length) : (ls.take (k + 1)).flatten = (ls.take k).flatten ++ ls.getD k [] := by
 rw [List.take_succ_eq_append_getElem h, List.flatten_append, List.getD_eq_getElem?_getD, List.getElem?_eq_getElem h]; simp
theorem flat_leW (ls : List (List UInt32)) (k : Nat) : (ls.take k).flatten.length ≤ ls.flatten.length := by
 have : ls.flatten = (ls.take k).flatten ++ (ls.drop k).flatten := by rw [← List.flatten_append, List.take_append_drop]
 rw [this, List.length_append]; omega
theorem vgetW {vs : List Value} {k n : Nat} (hn : vs.length = n) (h : k < n) : vs[k]? = some (vs.getD k undef) := by
 rw [List.getD_eq_getElem?_getD, List.getElem?_eq_getElem (by omega)]; rfl
set_option maxHeartbeats 800000 in
theorem concat_cW (w : World) (B : Nat) (v : Value) (vs : List Value) (ls : List (List UInt32)) (hv : Sl w B v vs) (hvs : SlSW w vs ls) (hl : ls.length ≤ 1000000) (hb : ls.flatten.length ≤ 1000000000) :
  Calls Try.prog 85 #[v] w (Ret fun v' w' => Ext w w' ∧ Own w' w.heap.size 92 v' (ls.flatten.map w32)) := by
 obtain ⟨i92, hi92, hz92, hs92, hb92⟩ := info_parts cat_u8W
 obtain ⟨i44, hi44, hz44, hs44, hb44⟩ := info_parts cat_slW
 have hvl := hvs.1
 go_enter Try.func85, Try.ntmps85
 go_wp2_with (first
  | ((with_reducible refine g_at (d := 10) ?_); refine wpl_len rfl Try.underlying115 hv (by first | rw [List.length_map] | rfl) ?_; try (conv in (Act.put _ _ _) => simp only [Act.put, List.setIfInBounds_toArray, List.set_cons_succ, List.set_cons_zero]))
  | ((with_reducible refine g_at (d := 17) ?_); refine wpl_len rfl Try.underlying44 (by first | assumption | exact Own.sl (by assumption) | exact Sl.back (by first | assumption | exact Ext.drew' (by assumption) | exact Ext.undrew (by assumption)) (by first | assumption | exact Own.sl (by assumption) | exact Sl.back (by first | assumption | exact Ext.drew' (by assumption) | exact Ext.undrew (by assumption)) (by first | assumption | exact Own.sl (by assumption) | exact Sl.back (by first | assumption | exact Ext.drew' (by assumption) | exact Ext.undrew (by assumption)) (by first | assumption | exact Own.sl (by assumption) | exact Sl.back (by first | assumption | exact Ext.drew' (by assumption) | exact Ext.undrew (by assumption)) (by first | assumption | exact Own.sl (by assumption) | exact Sl.back (by first | assumption | exact Ext.drew' (by assumption) | exact Ext.undrew (by assumption)) (by first | assumption | exact Own.sl (by assumption) | exact Sl.back (by first | assumption | exact Ext.drew' (by assumption) | exact Ext.undrew (by assumption)) (by first | assumption | exact Own.sl (by assumption) | exact Sl.back (by first | assumption | exact Ext.drew' (by assumption) | exact Ext.undrew (by assumption)) (by first | assumption | exact Own.sl (by assumption))))))))) (by first | rw [List.length_map] | rfl) ?_; try (conv in (Act.put _ _ _) => simp only [Act.put, List.setIfInBounds_toArray, List.set_cons_succ, List.set_cons_zero]))
  | ((with_reducible refine g_at (d := 26) ?_); refine wpl_len rfl Try.underlying115 (by first | assumption | exact Own.sl (by assumption) | exact Sl.back (by first | assumption | exact Ext.drew' (by assumption) | exact Ext.undrew (by assumption)) (by first | assumption | exact Own.sl (by assumption) | exact Sl.back (by first | assumption | exact Ext.drew' (by assumption) | exact Ext.undrew (by assumption)) (by first | assumption | exact Own.sl (by assumption) | exact Sl.back (by first | assumption | exact Ext.drew' (by assumption) | exact Ext.undrew (by assumption)) (by first | assumption | exact Own.sl (by assumption) | exact Sl.back (by first | assumption | exact Ext.drew' (by assumption) | exact Ext.undrew (by assumption)) (by first | assumption | exact Own.sl (by assumption) | exact Sl.back (by first | assumption | exact Ext.drew' (by assumption) | exact Ext.undrew (by assumption)) (by first | assumption | exact Own.sl (by assumption) | exact Sl.back (by first | assumption | exact Ext.drew' (by assumption) | exact Ext.undrew (by assumption)) (by first | assumption | exact Own.sl (by assumption) | exact Sl.back (by first | assumption | exact Ext.drew' (by assumption) | exact Ext.undrew (by assumption)) (by first | assumption | exact Own.sl (by assumption))))))))) (by first | rw [List.length_map] | rfl) ?_; try (conv in (Act.put _ _ _) => simp only [Act.put, List.setIfInBounds_toArray, List.set_cons_succ, List.set_cons_zero])))
 rw [hvl]
 go_loopw [3, 11] (fun s i wr => ∃ k : Nat, k ≤ ls.length ∧ i = .int .i64 k ∧ s = .int .i64 (((ls.take k).flatten.length : Nat) : Int) ∧ Ext w wr) (fun _ i _ => ls.length - (RowKit.intOf i).toNat)
 case atStart => exact ⟨0, Nat.zero_le _, rfl, by simp, Below.refl _ _⟩
 case round =>
  obtain ⟨k, hk, rfl, rfl, hx⟩ := hrel
  by_cases hlt : k < ls.length
  ·obtain ⟨Bi, hsi⟩ := hvs.2 k hlt
   have hf := flat_takeW ls k hlt
   have hle := flat_leW ls (k + 1)
   generalize ls.getD k [] = x at *
   rw [hf, List.length_append] at hle
   have hg : (ls.take (k + 1)).flatten.length = (ls.take k).flatten.length + x.length := by rw [hf, List.length_append]
   have HF := Lib.hid hg
   clear hf hg
   generalize (ls.take k).flatten.length = S at *
   have hw : wrap64 ((S : Int) + (x.length : Int)) = (S : Int) + (x.length : Int) := by unfold wrap64; omega
   have hneg : ¬ ((S : Int) + (x.length : Int) < 0) := Int.not_lt.2 (Int.add_nonneg (Int.natCast_nonneg _) (Int.natCast_nonneg _))
   go_wp2_with (first
    | ((with_reducible refine g_at (d := 13) ?_); refine wpl_index rfl rfl Try.underlying115 hi44 hs44 (hv.ext hx) rfl (vgetW hvl hlt) ?_; intro ad13 hb13 hc13; try (conv in (Act.put _ _ _) => simp only [Act.put, List.setIfInBounds_toArray, List.set_cons_succ, List.set_cons_zero]))
    | ((with_reducible refine g_at (d := 14) ?_); refine wpl_load1 rfl Try.underlying44 rfl hc13 ?_; try (conv in (Act.put _ _ _) => simp only [Act.put, List.setIfInBounds_toArray, List.set_cons_succ, List.set_cons_zero]))
    | ((with_reducible refine g_at (d := 17) ?_); refine wpl_len rfl Try.underlying44 (hsi.ext hx) (by first | rw [List.length_map] | rfl) ?_; try (conv in (Act.put _ _ _) => simp only [Act.put, List.setIfInBounds_toArray, List.set_cons_succ, List.set_cons_zero]))
    | ((with_reducible refine g_at (d := 10) ?_); refine wpl_len rfl Try.underlying115 (by first | assumption | exact Own.sl (by assumption) | exact Sl.back (by first | assumption | exact Ext.drew' (by assumption) | exact Ext.undrew (by assumption)) (by first | assumption | exact Own.sl (by assumption) | exact Sl.back (by first | assumption | exact Ext.drew' (by assumption) | exact Ext.undrew (by assumption)) (by first | assumption | exact Own.sl (by assumption) | exact Sl.back (by first | assumption | exact Ext.drew' (by assumption) | exact Ext.undrew (by assumption)) (by first | assumption | exact Own.sl (by assumption) | exact Sl.back (by first | assumption | exact Ext.drew' (by assumption) | exact Ext.undrew (by assumption)) (by first | assumption | exact Own.sl (by assumption) | exact Sl.back (by first | assumption | exact Ext.drew' (by assumption) | exact Ext.undrew (by assumption)) (by first | assumption | exact Own.sl (by assumption) | exact Sl.back (by first | assumption | exact Ext.drew' (by assumption) | exact Ext.undrew (by assumption)) (by first | assumption | exact Own.sl (by assumption) | exact Sl.back (by first | assumption | exact Ext.drew' (by assumption) | exact Ext.undrew (by assumption)) (by first | assumption | exact Own.sl (by assumption))))))))) (by first | rw [List.length_map] | rfl) ?_; try (conv in (Act.put _ _ _) => simp only [Act.put, List.setIfInBounds_toArray, List.set_cons_succ, List.set_cons_zero]))
    | ((with_reducible refine g_at (d := 26) ?_); refine wpl_len rfl Try.underlying115 (by first | assumption | exact Own.sl (by assumption) | exact Sl.back (by first | assumption | exact Ext.drew' (by assumption) | exact Ext.undrew (by assumption)) (by first | assumption | exact Own.sl (by assumption) | exact Sl.back (by first | assumption | exact Ext.drew' (by assumption) | exact Ext.undrew (by assumption)) (by first | assumption | exact Own.sl (by assumption) | exact Sl.back (by first | assumption | exact Ext.drew' (by assumption) | exact Ext.undrew (by assumption)) (by first | assumption | exact Own.sl (by assumption) | exact Sl.back (by first | assumption | exact Ext.drew' (by assumption) | exact Ext.undrew (by assumption)) (by first | assumption | exact Own.sl (by assumption) | exact Sl.back (by first | assumption | exact Ext.drew' (by assumption) | exact Ext.undrew (by assumption)) (by first | assumption | exact Own.sl (by assumption) | exact Sl.back (by first | assumption | exact Ext.drew' (by assumption) | exact Ext.undrew (by assumption)) (by first | assumption | exact Own.sl (by assumption) | exact Sl.back (by first | assumption | exact Ext.drew' (by assumption) | exact Ext.undrew (by assumption)) (by first | assumption | exact Own.sl (by assumption))))))))) (by first | rw [List.length_map] | rfl) ?_; try (conv in (Act.put _ _ _) => simp only [Act.put, List.setIfInBounds_toArray, List.set_cons_succ, List.set_cons_zero])))
   go_roundw
   case rel => exact ⟨k + 1, by omega, by go_num, by rw [HF.out]; go_num, hx⟩
   case measure => simp [RowKit.intOf]; omega
  ·obtain rfl : k = ls.length := by omega
   rw [List.take_length]
   have HB := Lib.hid hb
   generalize hS : ls.flatten.length = S at *
   have HS := Lib.hid hS
   clear hS
   go_wp2_with (first
    | ((with_reducible refine g_at (d := 24) ?_); refine wpl_call Try.func88 (by kernel_rfl) (by kernel_rfl) rfl (grow_cW wr S (Nat.le_trans HB.out (by decide))) ?_; rintro v24 w24 ⟨hx24, h24⟩; try (conv in (Act.put _ _ _) => simp only [Act.put, List.setIfInBounds_toArray, List.set_cons_succ, List.set_cons_zero]))
    | ((with_reducible refine g_at (d := 26) ?_); refine wpl_len rfl Try.underlying115 (hv.ext (hx.tr hx24)) (by first | rw [List.length_map] | rfl) ?_; try (conv in (Act.put _ _ _) => simp only [Act.put, List.setIfInBounds_toArray, List.set_cons_succ, List.set_cons_zero]))
    | ((with_reducible refine g_at (d := 10) ?_); refine wpl_len rfl Try.underlying115 (by first | assumption | exact Own.sl (by assumption) | exact Sl.back (by first | assumption | exact Ext.drew' (by assumption) | exact Ext.undrew (by assumption)) (by first | assumption | exact Own.sl (by assumption) | exact Sl.back (by first | assumption | exact Ext.drew' (by assumption) | exact Ext.undrew (by assumption)) (by first | assumption | exact Own.sl (by assumption) | exact Sl.back (by first | assumption | exact Ext.drew' (by assumption) | exact Ext.undrew (by assumption)) (by first | assumption | exact Own.sl (by assumption) | exact Sl.back (by first | assumption | exact Ext.drew' (by assumption) | exact Ext.undrew (by assumption)) (by first | assumption | exact Own.sl (by assumption) | exact Sl.back (by first | assumption | exact Ext.drew' (by assumption) | exact Ext.undrew (by assumption)) (by first | assumption | exact Own.sl (by assumption) | exact Sl.back (by first | assumption | exact Ext.drew' (by assumption) | exact Ext.undrew (by assumption)) (by first | assumption | exact Own.sl (by assumption) | exact Sl.back (by first | assumption | exact Ext.drew' (by assumption) | exact Ext.undrew (by assumption)) (by first | assumption | exact Own.sl (by assumption))))))))) (by first | rw [List.length_map] | rfl) ?_; try (conv in (Act.put _ _ _) => simp only [Act.put, List.setIfInBounds_toArray, List.set_cons_succ, List.set_cons_zero]))
    | ((with_reducible refine g_at (d := 17) ?_); refine wpl_len rfl Try.underlying44 (by first | assumption | exact Own.sl (by assumption) | exact Sl.back (by first | assumption | exact Ext.drew' (by assumption) | exact Ext.undrew (by assumption)) (by first | assumption | exact Own.sl (by assumption) | exact Sl.back (by first | assumption | exact Ext.drew' (by assumption) | exact Ext.undrew (by assumption)) (by first | assumption | exact Own.sl (by assumption) | exact Sl.back (by first | assumption | exact Ext.drew' (by assumption) | exact Ext.undrew (by assumption)) (by first | assumption | exact Own.sl (by assumption) | exact Sl.back (by first | assumption | exact Ext.drew' (by assumption) | exact Ext.undrew (by assumption)) (by first | assumption | exact Own.sl (by assumption) | exact Sl.back (by first | assumption | exact Ext.drew' (by assumption) | exact Ext.undrew (by assumption)) (by first | assumption | exact Own.sl (by assumption) | exact Sl.back (by first | assumption | exact Ext.drew' (by assumption) | exact Ext.undrew (by assumption)) (by first | assumption | exact Own.sl (by assumption) | exact Sl.back (by first | assumption | exact Ext.drew' (by assumption) | exact Ext.undrew (by assumption)) (by first | assumption | exact Own.sl (by assumption))))))))) (by first | rw [List.length_map] | rfl) ?_; try (conv in (Act.put _ _ _) => simp only [Act.put, List.setIfInBounds_toArray, List.set_cons_succ, List.set_cons_zero])))
   rw [hvl]
   have hxx := hx.tr hx24
   have ho0 := h24.down hx.size
   clear hx hx24 h24
   go_loopw [6, 27] (fun o i wq => ∃ k : Nat, k ≤ ls.length ∧ i = .int .i64 k ∧ Own wq w.heap.size 92 o ((ls.take k).flatten.map w32) ∧ Ext w wq) (fun _ i _ => ls.length - (RowKit.intOf i).toNat)
   case atStart => exact ⟨0, Nat.zero_le _, rfl, by simpa using ho0, hxx⟩
   case round =>
    obtain ⟨k, hk, rfl, ho, hx⟩ := hrel
    by_cases hlt : k < ls.length
    ·obtain ⟨Bi, hsi⟩ := hvs.2 k hlt
     have hf := flat_takeW ls k hlt
     have hle := flat_leW ls (k + 1)
     generalize ls.getD k [] = x at *
     rw [hf, List.length_append] at hle
     have HF := Lib.hid hf
     clear hf
     generalize (ls.take k).flatten = X at *
     have hb9 : (List.map w32 X).length + (List.map w32 x).length ≤ 1000000000 := by rw [List.length_map, List.length_map]; have h1 := HS.out; have h2 := HB.out; omega
     go_wp2_with (first
      | ((with_reducible refine g_at (d := 29) ?_); refine wpl_index rfl rfl Try.underlying115 hi44 hs44 (hv.ext hx) rfl (vgetW hvl hlt) ?_; intro ad29 hb29 hc29; try (conv in (Act.put _ _ _) => simp only [Act.put, List.setIfInBounds_toArray, List.set_cons_succ, List.set_cons_zero]))
      | ((with_reducible refine g_at (d := 30) ?_); refine wpl_load1 rfl Try.underlying44 rfl hc29 ?_; try (conv in (Act.put _ _ _) => simp only [Act.put, List.setIfInBounds_toArray, List.set_cons_succ, List.set_cons_zero]))
      | ((with_reducible refine g_at (d := 33) ?_); refine wpl_append (v := u6) rfl rfl Try.underlying44 hi92 hz92 hs92 hb92 rfl ho (hsi.ext hx) (w32_one x) (by first | omega | (simp <;> omega)) (by omega) hx.size ?_; intro v33 w33 h33 hg33 ha33 hx33; try (conv in (Act.put _ _ _) => simp only [Act.put, List.setIfInBounds_toArray, List.set_cons_succ, List.set_cons_zero]))
      | ((with_reducible refine g_at (d := 10) ?_); refine wpl_len rfl Try.underlying115 (by first | assumption | exact Own.sl (by assumption) | exact Sl.back (by first | assumption | exact Ext.drew' (by assumption) | exact Ext.undrew (by assumption)) (by first | assumption | exact Own.sl (by assumption) | exact Sl.back (by first | assumption | exact Ext.drew' (by assumption) | exact Ext.undrew (by assumption)) (by first | assumption | exact Own.sl (by assumption) | exact Sl.back (by first | assumption | exact Ext.drew' (by assumption) | exact Ext.undrew (by assumption)) (by first | assumption | exact Own.sl (by assumption) | exact Sl.back (by first | assumption | exact Ext.drew' (by assumption) | exact Ext.undrew (by assumption)) (by first | assumption | exact Own.sl (by assumption) | exact Sl.back (by first | assumption | exact Ext.drew' (by assumption) | exact Ext.undrew (by assumption)) (by first | assumption | exact Own.sl (by assumption) | exact Sl.back (by first | assumption | exact Ext.drew' (by assumption) | exact Ext.undrew (by assumption)) (by first | assumption | exact Own.sl (by assumption) | exact Sl.back (by first | assumption | exact Ext.drew' (by assumption) | exact Ext.undrew (by assumption)) (by first | assumption | exact Own.sl (by assumption))))))))) (by first | rw [List.length_map] | rfl) ?_; try (conv in (Act.put _ _ _) => simp only [Act.put, List.setIfInBounds_toArray, List.set_cons_succ, List.set_cons_zero]))
      | ((with_reducible refine g_at (d := 17) ?_); refine wpl_len rfl Try.underlying44 (by first | assumption | exact Own.sl (by assumption) | exact Sl.back (by first | assumption | exact Ext.drew' (by assumption) | exact Ext.undrew (by assumption)) (by first | assumption | exact Own.sl (by assumption) | exact Sl.back (by first | assumption | exact Ext.drew' (by assumption) | exact Ext.undrew (by assumption)) (by first | assumption | exact Own.sl (by assumption) | exact Sl.back (by first | assumption | exact Ext.drew' (by assumption) | exact Ext.undrew (by assumption)) (by first | assumption | exact Own.sl (by assumption) | exact Sl.back (by first | assumption | exact Ext.drew' (by assumption) | exact Ext.undrew (by assumption)) (by first | assumption | exact Own.sl (by assumption) | exact Sl.back (by first | assumption | exact Ext.drew' (by assumption) | exact Ext.undrew (by assumption)) (by first | assumption | exact Own.sl (by assumption) | exact Sl.back (by first | assumption | exact Ext.drew' (by assumption) | exact Ext.undrew (by assumption)) (by first | assumption | exact Own.sl (by assumption) | exact Sl.back (by first | assumption | exact Ext.drew' (by assumption) | exact Ext.undrew (by assumption)) (by first | assumption | exact Own.sl (by assumption))))))))) (by first | rw [List.length_map] | rfl) ?_; try (conv in (Act.put _ _ _) => simp only [Act.put, List.setIfInBounds_toArray, List.set_cons_succ, List.set_cons_zero]))
      | ((with_reducible refine g_at (d := 26) ?_); refine wpl_len rfl Try.underlying115 (by first | assumption | exact Own.sl (by assumption) | exact Sl.back (by first | assumption | exact Ext.drew' (by assumption) | exact Ext.undrew (by assumption)) (by first | assumption | exact Own.sl (by assumption) | exact Sl.back (by first | assumption | exact Ext.drew' (by assumption) | exact Ext.undrew (by assumption)) (by first | assumption | exact Own.sl (by assumption) | exact Sl.back (by first | assumption | exact Ext.drew' (by assumption) | exact Ext.undrew (by assumption)) (by first | assumption | exact Own.sl (by assumption) | exact Sl.back (by first | assumption | exact Ext.drew' (by assumption) | exact Ext.undrew (by assumption)) (by first | assumption | exact Own.sl (by assumption) | exact Sl.back (by first | assumption | exact Ext.drew' (by assumption) | exact Ext.undrew (by assumption)) (by first | assumption | exact Own.sl (by assumption) | exact Sl.back (by first | assumption | exact Ext.drew' (by assumption) | exact Ext.undrew (by assumption)) (by first | assumption | exact Own.sl (by assumption) | exact Sl.back (by first | assumption | exact Ext.drew' (by assumption) | exact Ext.undrew (by assumption)) (by first | assumption | exact Own.sl (by assumption))))))))) (by first | rw [List.length_map] | rfl) ?_; try (conv in (Act.put _ _ _) => simp only [Act.put, List.setIfInBounds_toArray, List.set_cons_succ, List.set_cons_zero])))
     go_roundw
     case rel => exact ⟨k + 1, by omega, by go_num, by rw [HF.out, List.map_append]; exact h33, hx.trans hx33⟩
     case measure => simp [RowKit.intOf]; omega
    ·obtain rfl : k = ls.length := by omega
     rw [List.take_length] at ho
     go_wp2
     go_ret
     exact ⟨_, rfl, hx, ho⟩
end Go.Proofs.Ytobfglafchoipaa
end
section
namespace Go.Proofs.Ytobfglafchoipaa
open Go.RowKit Go.Ch Go.Sx
theorem slr_slW {w : World} {v : Value} {n : Nat} {vs : List Value} (h : SlR w v n 1 vs) : Sl w w.heap.size v vs := by
 obtain ⟨hl, A, c, rfl, h1, h2, h3, h4⟩ := h
 have hn : vs.length = n := by omega
 subst hn
 refine ⟨Nat.le_refl _, A, c, rfl, h1, h2, h3, fun ad had j u hu => ⟨?_, h4 ad had j u hu⟩⟩
 have := World.block_lt_of_cell? _ _ (h4 ad had j u hu)
 rwa [block_add] at this
def aLsW (H : Hp) : List Cl → Option (List (List UInt32))
 | [] => some []
 | c :: cs => (match aW H (.c c), aLsW H cs with | some l, some ls => some (l :: ls) | _, _ => none)
theorem aLs_okW {ρ : Pls} {w : World} {H : Hp} (hp : HpR ρ w H) : ∀ {cs : List Cl} {ls : List (List UInt32)} {vs : List Value}, aLsW H cs = some ls → F2 (clR ρ) cs vs → SlSW w vs ls
 | [], ls, vs, h, hv => by
  obtain rfl := F2.unnil hv
  simp only [aLsW, Option.some.injEq] at h
  subst h
  exact ⟨rfl, fun i hi => by simp at hi⟩
 | c :: cs, ls, vs, h, hv => by
  obtain ⟨v, vs', rfl, hc, hvs⟩ := F2.uncons hv
  simp only [aLsW] at h
  split at h
  ·rename_i l ls' hl hls
   injection h with h; subst h
   obtain ⟨h1, h2⟩ := aLs_okW hp hls hvs
   obtain ⟨p, hI⟩ := aW_ok hp hl hc 92
   have hs := hI.sl (fun _ _ h => csR_w.1 h) (by simp)
   refine ⟨by simp [h1], fun i hi => ?_⟩
   cases i with
   | zero => exact ⟨_, hs⟩
   | succ i => exact h2 i (by simpa using hi)
  ·cases h
def cat_ctW : Ct := fun args H => match args with
 | [.c x] => (match vcs H x with
  | some (sz, _, .c cells) => (match Nat.beq sz 1, aLsW H cells with
   | true, some ls => some ([ls.length ≤ 1000000, ls.flatten.length ≤ 1000000000], .c (.wh H.length), [⟨.row, 92, 1, ls.flatten.length, .w ls.flatten⟩])
   | _, _ => none)
  | _ => none)
 | _ => none
theorem cat_hW : FnOk Try.prog Tr 85 cat_ctW := by
 refine ⟨fun args H g av objs hF hg ρ w vals hG hp ha => ?_, _, Try.func85, by kernel_rfl, by kernel_rfl⟩
 unfold cat_ctW at hF
 split at hF
 ·rename_i x
  split at hF
  ·rename_i sz n cells hx
   split at hF
   ·rename_i ls hsz hls
    simp only [Option.some.injEq, Prod.mk.injEq] at hF
    obtain ⟨rfl, rfl, rfl⟩ := hF
    obtain ⟨v, vals, rfl, k, ha⟩ := F2.inv ha
    obtain rfl := F2.inv0 ha
    have e1 := Nat.eq_of_beq_eq_true hsz
    subst e1
    obtain ⟨vs, hc, hS⟩ := vcs_ok hp hx k
    obtain ⟨g1, g2⟩ : ls.length ≤ 1000000 ∧ ls.flatten.length ≤ 1000000000 := by simpa [allP] using hg
    exact calls_mono (concat_cW w _ v vs ls (slr_slW hS) (aLs_okW hp hls hc) g1 g2) fun v w' ⟨hx, hv⟩ => ⟨hx, left_row hv (fun _ => csR_w.2 rfl) (by rw [List.length_map])⟩
   ·cases hF
  ·cases hF
 ·cases hF
end Go.Proofs.Ytobfglafchoipaa
end
section
namespace Go.Proofs.Ytobfglafchoipaa
open Go.RowKit Go.Ch Go.Sx
def tabL_nsa : List (TypeId × Ti) := [(3, ⟨.int .i64, 1, 8, true, some [.int .i64]⟩),
 (4, ⟨.bool, 1, 1, true, some [.bool]⟩),
 (5, ⟨.int .u8, 1, 1, true, some [.int .u8]⟩),
 (9, ⟨.str, 1, 16, true, some [.str]⟩),
 (22, ⟨.sl 5, 1, 24, false, some [.nils]⟩),
 (27, ⟨.sl 47, 1, 24, false, some [.nils]⟩),
 (32, ⟨.ifc, 1, 16, true, some [.ifc]⟩),
 (38, ⟨.int .i64, 1, 8, true, some [.int .i64]⟩),
 (44, ⟨.sl 92, 1, 24, false, some [.nils]⟩),
 (46, ⟨.st [(44, 0), (5, 1), (22, 2)], 3, 56, false, some [.nils, .int .u8, .nils]⟩),
 (47, ⟨.sl 46, 1, 24, false, some [.nils]⟩),
 (56, ⟨.ptr 89, 1, 8, true, some [.ptr]⟩),
 (87, ⟨.sl 3, 1, 24, false, some [.nils]⟩),
 (89, ⟨.st [(22, 0), (3, 1), (87, 2)], 3, 56, false, some [.nils, .int .i64, .nils]⟩),
 (92, ⟨.int .u32, 1, 4, true, some [.int .u32]⟩),
 (108, ⟨.int .u64, 1, 8, true, some [.int .u64]⟩),
 (115, ⟨.sl 44, 1, 24, false, some [.nils]⟩)]
def tab_nsa : Tab := fun t => (tabL_nsa).lookup t
theorem tabE_nsa : (tabL_nsa.map fun p => tiOf Try.prog p.1) = tabL_nsa.map fun p => some p.2 := by kernel_rfl
theorem tabO_nsa : TabOk Try.prog tab_nsa := tab_of tabE_nsa
def pReadOid_j1 (n : Nat) (a0 : List UInt8) (i12_1 : Int) (k_l1 : (List UInt32) → UInt64 → Bool → Int → Option (List UInt32 × Option Int)) (w4_7 : List UInt32) (y5_7 : UInt64) (p6_7 : Bool) : Option (List UInt32 × Option Int) :=
 gd (okI .i64 (i12_1 + 1)) <|
 k_l1 w4_7 y5_7 p6_7 (i12_1 + 1)
def pReadOid_l1 (n : Nat) (a0 : List UInt8) : Nat → List UInt32 → UInt64 → Bool → Int → Option (List UInt32 × Option Int)
 | 0, _, _, _, _ => none
 | fu_l1 + 1, w4_5, y5_5, p6_5, i12_1 =>
  bif (decide (i12_1 < ((a0.length : Nat) : Int))) then
   gd (0 ≤ i12_1) <|
   gd (i12_1 < ((a0.length : Nat) : Int)) <|
   bif (!p6_5) then
    bif ((a0.getD i12_1.toNat 0) == 128) then
     some ([], (some 2))
    else
     bif (decide ((16 : Int) < ((w4_5.length : Nat) : Int))) then
      some ([], (some 2))
     else
      gd (0 ≤ (7 : Int)) <|
      bif (decide ((4294967296 : UInt64) ≤ ((shl64 y5_5 7) ||| (((a0.getD i12_1.toNat 0) &&& (127 : UInt8)).toUInt64)))) then
       some ([], (some 2))
      else
       bif (decide ((a0.getD i12_1.toNat 0) < (128 : UInt8))) then
        gd (rmB (w4_5.length + 1) 4) <|
        pReadOid_j1 n a0 i12_1 (pReadOid_l1 n a0 fu_l1) (w4_5 ++ [((shl64 y5_5 7) ||| (((a0.getD i12_1.toNat 0) &&& (127 : UInt8)).toUInt64)).toUInt32]) 0 false
       else
        pReadOid_j1 n a0 i12_1 (pReadOid_l1 n a0 fu_l1) w4_5 ((shl64 y5_5 7) ||| (((a0.getD i12_1.toNat 0) &&& (127 : UInt8)).toUInt64)) true
   else
    bif (decide ((16 : Int) < ((w4_5.length : Nat) : Int))) then
     some ([], (some 2))
    else
     gd (0 ≤ (7 : Int)) <|
     bif (decide ((4294967296 : UInt64) ≤ ((shl64 y5_5 7) ||| (((a0.getD i12_1.toNat 0) &&& (127 : UInt8)).toUInt64)))) then
      some ([], (some 2))
     else
      bif (decide ((a0.getD i12_1.toNat 0) < (128 : UInt8))) then
       gd (rmB (w4_5.length + 1) 4) <|
       pReadOid_j1 n a0 i12_1 (pReadOid_l1 n a0 fu_l1) (w4_5 ++ [((shl64 y5_5 7) ||| (((a0.getD i12_1.toNat 0) &&& (127 : UInt8)).toUInt64)).toUInt32]) 0 false
      else
       pReadOid_j1 n a0 i12_1 (pReadOid_l1 n a0 fu_l1) w4_5 ((shl64 y5_5 7) ||| (((a0.getD i12_1.toNat 0) &&& (127 : UInt8)).toUInt64)) true
  else
   bif p6_5 then
    some ([], (some 2))
   else
    bif (((w4_5.length : Nat) : Int) == 0) then
     some ([], (some 2))
    else
     gd (0 ≤ (0 : Int)) <|
     gd ((0 : Int) < ((w4_5.length : Nat) : Int)) <|
     gd ((40 : UInt32) ≠ 0) <|
     gd (0 ≤ (0 : Int)) <|
     gd ((0 : Int) < ((w4_5.length : Nat) : Int)) <|
     gd (0 ≤ (1 : Int)) <|
     gd ((1 : Int) ≤ ((w4_5.length : Nat) : Int)) <|
     gd ((([[(if (2 : UInt32) < ((w4_5.getD 0 0) / (40 : UInt32)) then (2 : UInt32) else ((w4_5.getD 0 0) / (40 : UInt32))), ((w4_5.getD 0 0) - ((40 : UInt32) * (if (2 : UInt32) < ((w4_5.getD 0 0) / (40 : UInt32)) then (2 : UInt32) else ((w4_5.getD 0 0) / (40 : UInt32)))))], ((w4_5.drop 1).take (w4_5.length - 1))] : List (List UInt32))).length ≤ 1000000) <|
     gd ((([[(if (2 : UInt32) < ((w4_5.getD 0 0) / (40 : UInt32)) then (2 : UInt32) else ((w4_5.getD 0 0) / (40 : UInt32))), ((w4_5.getD 0 0) - ((40 : UInt32) * (if (2 : UInt32) < ((w4_5.getD 0 0) / (40 : UInt32)) then (2 : UInt32) else ((w4_5.getD 0 0) / (40 : UInt32)))))], ((w4_5.drop 1).take (w4_5.length - 1))] : List (List UInt32))).flatten.length ≤ 1000000000) <|
     (pident n ((([[(if (2 : UInt32) < ((w4_5.getD 0 0) / (40 : UInt32)) then (2 : UInt32) else ((w4_5.getD 0 0) / (40 : UInt32))), ((w4_5.getD 0 0) - ((40 : UInt32) * (if (2 : UInt32) < ((w4_5.getD 0 0) / (40 : UInt32)) then (2 : UInt32) else ((w4_5.getD 0 0) / (40 : UInt32)))))], ((w4_5.drop 1).take (w4_5.length - 1))] : List (List UInt32))).flatten)).bind fun r70_1 =>
     bif (!r70_1) then
      some ([], (some 2))
     else
      some (((([[(if (2 : UInt32) < ((w4_5.getD 0 0) / (40 : UInt32)) then (2 : UInt32) else ((w4_5.getD 0 0) / (40 : UInt32))), ((w4_5.getD 0 0) - ((40 : UInt32) * (if (2 : UInt32) < ((w4_5.getD 0 0) / (40 : UInt32)) then (2 : UInt32) else ((w4_5.getD 0 0) / (40 : UInt32)))))], ((w4_5.drop 1).take (w4_5.length - 1))] : List (List UInt32))).flatten), none)
def pReadOid (n : Nat) (a0 : List UInt8) : Option (List UInt32 × Option Int) :=
 pReadOid_l1 n a0 n [] 0 false 0
def nOne (n : Nat) (a0_0 : List UInt8) (a0_1 : Int) (a0_2 : List Int) : Option (Int × List Int × List UInt32 × UInt8 × List UInt8 × Option Int) :=
 (tEnter n a0_0 a0_1 a0_2 48).bind fun r12 =>
 bif (!((r12.2.2).isNone)) then
  some (r12.1, r12.2.1, [], 0, [], r12.2.2)
 else
  (tTake n a0_0 r12.1 r12.2.1 6).bind fun r19 =>
  bif (!((r19.2.2).isNone)) then
   some (r19.1, r12.2.1, [], 0, [], r19.2.2)
  else
   (pReadOid n r19.2.1).bind fun r28 =>
   bif (!((r28.2).isNone)) then
    some (r19.1, r12.2.1, [], 0, [], r28.2)
   else
    (tNext n a0_0 r19.1 r12.2.1).bind fun r37 =>
    (tTake n a0_0 r19.1 r12.2.1 r37.1).bind fun r43 =>
    bif (!((r43.2.2).isNone)) then
     some (r43.1, r12.2.1, [], 0, [], r43.2.2)
    else
     (tLeave n a0_0 r43.1 r12.2.1).bind fun r55 =>
     some (r43.1, r55.1, r28.1, r37.1, r43.2.1, r55.2)
def nSteps_j1 (n : Nat) (a0_0 : List UInt8) (ig1000000_1_32 : Int) (zg1000000_2_32 : List Int) (d5_4 : List (List (List UInt32 × (UInt8 × List UInt8)))) : Option (Int × List Int × List (List (List UInt32 × (UInt8 × List UInt8))) × Option Int) :=
 (tLeave n a0_0 ig1000000_1_32 zg1000000_2_32).bind fun r63_1 =>
 bif (!((r63_1.2).isNone)) then
  some (ig1000000_1_32, r63_1.1, [], r63_1.2)
 else
  (tEnd n a0_0 ig1000000_1_32 r63_1.1).bind fun r69_1 =>
  some (ig1000000_1_32, r63_1.1, d5_4, r69_1)
def nSteps_j2 (n : Nat) (a0_0 : List UInt8) (d5_5 : List (List (List UInt32 × (UInt8 × List UInt8)))) (k_l1 : Int → (List Int) → (List (List (List UInt32 × (UInt8 × List UInt8)))) → Option (Int × List Int × List (List (List UInt32 × (UInt8 × List UInt8))) × Option Int)) (ig1000000_1_41 : Int) (zg1000000_2_41 : List Int) (d9_34 : List (List UInt32 × (UInt8 × List UInt8))) : Option (Int × List Int × List (List (List UInt32 × (UInt8 × List UInt8))) × Option Int) :=
 (tLeave n a0_0 ig1000000_1_41 zg1000000_2_41).bind fun r54_11 =>
 bif (!((r54_11.2).isNone)) then
  some (ig1000000_1_41, r54_11.1, [], r54_11.2)
 else
  gd (rmB (d5_5.length + 1) 24) <|
  k_l1 ig1000000_1_41 r54_11.1 (d5_5 ++ [d9_34])
def nSteps_l2 (n : Nat) (a0_0 : List UInt8) (d5_5 : List (List (List UInt32 × (UInt8 × List UInt8)))) (k_l1 : Int → (List Int) → (List (List (List UInt32 × (UInt8 × List UInt8)))) → Option (Int × List Int × List (List (List UInt32 × (UInt8 × List UInt8))) × Option Int)) : Nat → Int → List Int → List (List UInt32 × (UInt8 × List UInt8)) → Option (Int × List Int × List (List (List UInt32 × (UInt8 × List UInt8))) × Option Int)
 | 0, _, _, _ => none
 | fu_l2 + 1, ig1000000_1_42, zg1000000_2_42, d9_35 =>
  (tNext n a0_0 ig1000000_1_42 zg1000000_2_42).bind fun r36_28 =>
  bif (!r36_28.2) then
   nSteps_j2 n a0_0 d5_5 k_l1 ig1000000_1_42 zg1000000_2_42 d9_35
  else
   (nOne n a0_0 ig1000000_1_42 zg1000000_2_42).bind fun r43_28 =>
   bif (!((r43_28.2.2.2.2.2).isNone)) then
    some (r43_28.1, r43_28.2.1, [], r43_28.2.2.2.2.2)
   else
    gd (rmB (d9_35.length + 1) 56) <|
    (nSteps_l2 n a0_0 d5_5 k_l1 fu_l2) r43_28.1 r43_28.2.1 (d9_35 ++ [(r43_28.2.2.1, (r43_28.2.2.2.1, r43_28.2.2.2.2.1))])
def nSteps_l1 (n : Nat) (a0_0 : List UInt8) : Nat → Int → List Int → List (List (List UInt32 × (UInt8 × List UInt8))) → Option (Int × List Int × List (List (List UInt32 × (UInt8 × List UInt8))) × Option Int)
 | 0, _, _, _ => none
 | fu_l1 + 1, ig1000000_1_36, zg1000000_2_36, d5_5 =>
  (tNext n a0_0 ig1000000_1_36 zg1000000_2_36).bind fun r24_4 =>
  bif (!r24_4.2) then
   nSteps_j1 n a0_0 ig1000000_1_36 zg1000000_2_36 d5_5
  else
   (tEnter n a0_0 ig1000000_1_36 zg1000000_2_36 49).bind fun r30_4 =>
   bif (!((r30_4.2.2).isNone)) then
    some (r30_4.1, r30_4.2.1, [], r30_4.2.2)
   else
    nSteps_l2 n a0_0 d5_5 (nSteps_l1 n a0_0 fu_l1) n r30_4.1 r30_4.2.1 []
def nSteps (n : Nat) (a0_0 : List UInt8) (a0_1 : Int) (a0_2 : List Int) : Option (Int × List Int × List (List (List UInt32 × (UInt8 × List UInt8))) × Option Int) :=
 (tEnter n a0_0 a0_1 a0_2 48).bind fun r17 =>
 bif (!((r17.2.2).isNone)) then
  some (r17.1, r17.2.1, [], r17.2.2)
 else
  nSteps_l1 n a0_0 n r17.1 r17.2.1 []
def nRead (n : Nat) (a0 : List UInt8) : Option (List (List (List UInt32 × (UInt8 × List UInt8))) × Option Int) :=
 (tNewR n a0).bind fun r8 =>
 (nSteps n r8.1 0 r8.2).bind fun r9 =>
 bif (!((r9.2.2.2).isNone)) then
  some ([], (some 2))
 else
  (nCheck n r9.2.2.1).bind fun r16 =>
  bif (!((r16).isNone)) then
   some ([], (some 2))
  else
   some (r9.2.2.1, none)
def rSame_l2 (n : Nat) (a0 : List (List (List UInt32 × (UInt8 × List UInt8)))) (a1 : List (List (List UInt32 × (UInt8 × List UInt8)))) (i5_2 : Int) (k_l1 : Int → Option (Bool)) : Nat → Int → Option (Bool)
 | 0, _ => none
 | fu_l2 + 1, i6_8 =>
  gd (0 ≤ i5_2) <|
  gd (i5_2 < ((a0.length : Nat) : Int)) <|
  bif (decide (i6_8 < (((a0.getD i5_2.toNat []).length : Nat) : Int))) then
   gd (0 ≤ i5_2) <|
   gd (i5_2 < ((a0.length : Nat) : Int)) <|
   gd (0 ≤ i6_8) <|
   gd (i6_8 < (((a0.getD i5_2.toNat []).length : Nat) : Int)) <|
   gd (0 ≤ i5_2) <|
   gd (i5_2 < ((a1.length : Nat) : Int)) <|
   gd (0 ≤ i6_8) <|
   gd (i6_8 < (((a1.getD i5_2.toNat []).length : Nat) : Int)) <|
   (sameTy n (((a0.getD i5_2.toNat []).getD i6_8.toNat ([], (0, []))).1) (((a1.getD i5_2.toNat []).getD i6_8.toNat ([], (0, []))).1)).bind fun r54_12 =>
   bif (!r54_12) then
    some false
   else
    gd (0 ≤ i5_2) <|
    gd (i5_2 < ((a0.length : Nat) : Int)) <|
    gd (0 ≤ i6_8) <|
    gd (i6_8 < (((a0.getD i5_2.toNat []).length : Nat) : Int)) <|
    gd (0 ≤ i5_2) <|
    gd (i5_2 < ((a1.length : Nat) : Int)) <|
    gd (0 ≤ i6_8) <|
    gd (i6_8 < (((a1.getD i5_2.toNat []).length : Nat) : Int)) <|
    bif ((((a0.getD i5_2.toNat []).getD i6_8.toNat ([], (0, []))).2.1) != (((a1.getD i5_2.toNat []).getD i6_8.toNat ([], (0, []))).2.1)) then
     some false
    else
     gd (0 ≤ i5_2) <|
     gd (i5_2 < ((a0.length : Nat) : Int)) <|
     gd (0 ≤ i6_8) <|
     gd (i6_8 < (((a0.getD i5_2.toNat []).length : Nat) : Int)) <|
     gd (0 ≤ i5_2) <|
     gd (i5_2 < ((a1.length : Nat) : Int)) <|
     gd (0 ≤ i6_8) <|
     gd (i6_8 < (((a1.getD i5_2.toNat []).length : Nat) : Int)) <|
     bif ((((a0.getD i5_2.toNat []).getD i6_8.toNat ([], (0, []))).2.2) != (((a1.getD i5_2.toNat []).getD i6_8.toNat ([], (0, []))).2.2)) then
      some false
     else
      gd (okI .i64 (i6_8 + 1)) <|
      (rSame_l2 n a0 a1 i5_2 k_l1 fu_l2) (i6_8 + 1)
  else
   gd (okI .i64 (i5_2 + 1)) <|
   k_l1 (i5_2 + 1)
def rSame_l1 (n : Nat) (a0 : List (List (List UInt32 × (UInt8 × List UInt8)))) (a1 : List (List (List UInt32 × (UInt8 × List UInt8)))) : Nat → Int → Option (Bool)
 | 0, _ => none
 | fu_l1 + 1, i5_2 =>
 bif (decide (i5_2 < ((a0.length : Nat) : Int))) then
 gd (0 ≤ i5_2) <|
 gd (i5_2 < ((a0.length : Nat) : Int)) <|
 gd (0 ≤ i5_2) <|
 gd (i5_2 < ((a1.length : Nat) : Int)) <|
 bif ((((a0.getD i5_2.toNat []).length : Nat) : Int) != (((a1.getD i5_2.toNat []).length : Nat) : Int)) then
 some false
 else
 rSame_l2 n a0 a1 i5_2 (rSame_l1 n a0 a1 fu_l1) n 0
 else
 some true
def rSame (n : Nat) (a0 : List (List (List UInt32 × (UInt8 × List UInt8)))) (a1 : List (List (List UInt32 × (UInt8 × List UInt8)))) : Option (Bool) :=
 bif (((a0.length : Nat) : Int) != ((a1.length : Nat) : Int)) then
 some false
 else
 rSame_l1 n a0 a1 n 0
def pReadOid_j1_E (a0 : List UInt8) (i12_1 : Int) (w4_7 : List UInt32) (y5_7 : UInt64) (p6_7 : Bool) : S := ⟨[(4, kH 0), (5, kY y5_7), (6, kB p6_7), (10, kH 1), (11, kI ((a0.length : Nat) : Int)), (12, kI i12_1)], [], [nw 92 w4_7, ob 5 a0]⟩
abbrev pReadOid_j1_P (n : Nat) (a0 : List UInt8) (i12_1 : Int) (k_l1 : (List UInt32) → UInt64 → Bool → Int → Option (List UInt32 × Option Int)) (r : List UInt32 × Option Int) : S → Prop := fun s => ∃ (w4_7 : List UInt32), ∃ (y5_7 : UInt64), ∃ (p6_7 : Bool), s = pReadOid_j1_E a0 i12_1 w4_7 y5_7 p6_7 ∧ pReadOid_j1 n a0 i12_1 k_l1 w4_7 y5_7 p6_7 = some r
def pReadOid_l1_E (a0 : List UInt8) (w4_5 : List UInt32) (y5_5 : UInt64) (p6_5 : Bool) (i12_1 : Int) : S := ⟨[(4, kH 0), (5, kY y5_5), (6, kB p6_5), (10, kH 1), (11, kI ((a0.length : Nat) : Int)), (12, kI i12_1)], [], [nw 92 w4_5, ob 5 a0]⟩
abbrev pReadOid_l1_P (n : Nat) (a0 : List UInt8) (r : List UInt32 × Option Int) (fu : Nat) : S → Prop := fun s => ∃ (w4_5 : List UInt32), ∃ (y5_5 : UInt64), ∃ (p6_5 : Bool), ∃ (i12_1 : Int), s = pReadOid_l1_E a0 w4_5 y5_5 p6_5 i12_1 ∧ pReadOid_l1 n a0 fu w4_5 y5_5 p6_5 i12_1 = some r
def pReadOid_R (r : List UInt32 × Option Int) : S := ⟨[(2, kH 0), (3, kE 38 r.2)], [], [nw 92 r.1]⟩
def pReadOid_ct (n : Nat) (r : List UInt32 × Option Int) : Ct := ctc (rB 5).rd fun _ l0 => ct0 fun H => ([pReadOid n l0 = some r], shA H.length (.t [.c (.wh 0), .c (.s (.er 38 .i64 r.2))]), shH H.length [nw 92 r.1])
theorem pReadOid_ok (n : Nat) (r : List UInt32 × Option Int) : FnOk Try.prog Tr 78 (pReadOid_ct n r) := by
 refine fnok Try.func78 ?_
 refine HO_c (rB 5) fun l0 _ => HO_0 tabO_nsa (pReadOid_R r) [.tmp 2, .tmp 3] [0] 74 Try.func78 fun w hG h => ?_
 unfold pReadOid at h
 have hT := tabO_nsa
 refine Vrs hT [0] ⟨[(0, kH 0)], [], [ob 5 l0]⟩ ?_
 refine Vrs hT [0] ⟨[(0, kH 0), (4, .c (.nils))], [], [ob 5 l0]⟩ ?_
 refine Vrs hT [0] ⟨[(0, kH 0), (4, .c (.nils)), (5, kY 0), (6, kB false)], [], [ob 5 l0]⟩ ?_
 refine W_seq ?_
 refine Vrs hT [0] ⟨[(4, .c (.nils)), (5, kY 0), (6, kB false), (10, kH 0), (11, kI ((l0.length : Nat) : Int)), (12, kI 0)], [], [ob 5 l0]⟩ ?_
 refine W_block ?_
 refine Vc [.nil 4 92 1 (.w [])] [1, 0] (pReadOid_l1_E l0 [] 0 false 0) (W_lp ((pReadOid_l1_P n l0 r)) n ⟨_, _, _, _, rfl, h⟩ ?_)
 rintro fu_l1 _ ⟨w4_5, y5_5, p6_5, i12_1, rfl, h⟩
 cases fu_l1 with
 | zero => cases h
 | succ fu_l1 =>
  refine ⟨fu_l1, rfl, ?_⟩
  rw [pReadOid_l1] at h
  refine Vrs hT [0, 1] ⟨[(4, kH 0), (5, kY y5_5), (6, kB p6_5), (10, kH 1), (11, kI ((l0.length : Nat) : Int)), (12, kI i12_1), (13, kB (decide (i12_1 < ((l0.length : Nat) : Int))))], [], [nw 92 w4_5, ob 5 l0]⟩ ?_
  refine W_seq ?_
  refine Vi ((decide (i12_1 < ((l0.length : Nat) : Int)))) (fun g29 => ?_) (fun g29 => ?_)
  ·replace h := bif_t h g29
   refine Vc [] [0, 1] ⟨[(4, kH 0), (5, kY y5_5), (6, kB p6_5), (10, kH 1), (11, kI ((l0.length : Nat) : Int)), (12, kI i12_1)], [], [nw 92 w4_5, ob 5 l0]⟩ (W_skip ?_)
   refine W_join (pReadOid_j1_P n l0 i12_1 (pReadOid_l1 n l0 fu_l1) r) ?_ ?_
   ·rintro _ ⟨w4_7, y5_7, p6_7, rfl, h⟩
    unfold pReadOid_j1 at h
    obtain ⟨g1, h⟩ := gd_some h
    refine Vg hT fN [] [] [0, 1] (pReadOid_l1_E l0 w4_7 y5_7 p6_7 (i12_1 + 1)) (aP g1 aN) ?_
    exact ⟨_, _, _, _, rfl, h⟩
   ·refine W_block ?_
    obtain ⟨g2, g3, h⟩ := gd2 h
    refine Vgs hT fN [] [] [0, 1] ⟨[(4, kH 0), (5, kY y5_5), (6, kB p6_5), (8, kU (l0.getD i12_1.toNat 0)), (10, kH 1), (11, kI ((l0.length : Nat) : Int)), (12, kI i12_1)], [], [nw 92 w4_5, ob 5 l0]⟩ (aP g2 (aP g3 aN)) ?_
    refine W_seq ?_
    refine W_seq ?_
    rcases Bool.eq_false_or_eq_true (!p6_5) with g4 | g4
    ·replace h := bif_t h g4
     rcases Bool.eq_false_or_eq_true ((l0.getD i12_1.toNat 0) == 128) with g5 | g5
     ·replace h := bif_t h g5
      refine Vg hT fN [(2, true), (6, true)] [] [0, 1] ⟨[(4, kH 0), (5, kY y5_5), (8, kU (l0.getD i12_1.toNat 0)), (10, kH 1), (11, kI ((l0.length : Nat) : Int)), (12, kI i12_1), (26, kB true)], [], [nw 92 w4_5, ob 5 l0]⟩ (aP g4 (aP g5 aN)) ?_
      refine Vi (true) (fun _ => ?_) (fun hb => by cases hb)
      refine Vrs hT [] ⟨[(2, .c (.nils)), (3, kE 38 (some 2))], [], []⟩ ?_
      refine Vc [.nil 2 92 1 (.w [])] [0] (pReadOid_R ([], (some 2))) (W_ret ?_)
      exact ⟨.inl rfl, by cases h; rfl⟩
     ·replace h := bif_f h g5
      refine Vg hT fN [(2, true), (6, false)] [] [0, 1] ⟨[(4, kH 0), (5, kY y5_5), (8, kU (l0.getD i12_1.toNat 0)), (10, kH 1), (11, kI ((l0.length : Nat) : Int)), (12, kI i12_1), (26, kB (decide ((16 : Int) < ((w4_5.length : Nat) : Int))))], [], [nw 92 w4_5, ob 5 l0]⟩ (aP g4 (aP g5 aN)) ?_
      refine Vi ((decide ((16 : Int) < ((w4_5.length : Nat) : Int)))) (fun g10 => ?_) (fun g10 => ?_)
      ·replace h := bif_t h g10
       refine Vrs hT [] ⟨[(2, .c (.nils)), (3, kE 38 (some 2))], [], []⟩ ?_
       refine Vc [.nil 2 92 1 (.w [])] [0] (pReadOid_R ([], (some 2))) (W_ret ?_)
       exact ⟨.inl rfl, by cases h; rfl⟩
      ·replace h := bif_f h g10
       refine W_skip ?_
       obtain ⟨g6, h⟩ := gd_some h
       refine Vgs hT fN [] [] [0, 1] ⟨[(4, kH 0), (5, kY ((shl64 y5_5 7) ||| (((l0.getD i12_1.toNat 0) &&& (127 : UInt8)).toUInt64))), (6, kB true), (8, kU (l0.getD i12_1.toNat 0)), (10, kH 1), (11, kI ((l0.length : Nat) : Int)), (12, kI i12_1)], [], [nw 92 w4_5, ob 5 l0]⟩ (aP g6 aN) ?_
       refine W_seq ?_
       refine Vrs hT [0, 1] ⟨[(4, kH 0), (5, kY ((shl64 y5_5 7) ||| (((l0.getD i12_1.toNat 0) &&& (127 : UInt8)).toUInt64))), (6, kB true), (8, kU (l0.getD i12_1.toNat 0)), (10, kH 1), (11, kI ((l0.length : Nat) : Int)), (12, kI i12_1), (35, kB (decide ((4294967296 : UInt64) ≤ ((shl64 y5_5 7) ||| (((l0.getD i12_1.toNat 0) &&& (127 : UInt8)).toUInt64)))))], [], [nw 92 w4_5, ob 5 l0]⟩ ?_
       refine Vi ((decide ((4294967296 : UInt64) ≤ ((shl64 y5_5 7) ||| (((l0.getD i12_1.toNat 0) &&& (127 : UInt8)).toUInt64))))) (fun g9 => ?_) (fun g9 => ?_)
       ·replace h := bif_t h g9
        refine Vrs hT [] ⟨[(2, .c (.nils)), (3, kE 38 (some 2))], [], []⟩ ?_
        refine Vc [.nil 2 92 1 (.w [])] [0] (pReadOid_R ([], (some 2))) (W_ret ?_)
        exact ⟨.inl rfl, by cases h; rfl⟩
       ·replace h := bif_f h g9
        refine W_skip ?_
        refine Vrs hT [0, 1] ⟨[(4, kH 0), (5, kY ((shl64 y5_5 7) ||| (((l0.getD i12_1.toNat 0) &&& (127 : UInt8)).toUInt64))), (6, kB true), (10, kH 1), (11, kI ((l0.length : Nat) : Int)), (12, kI i12_1), (38, kB (decide ((l0.getD i12_1.toNat 0) < (128 : UInt8))))], [], [nw 92 w4_5, ob 5 l0]⟩ ?_
        refine Vi ((decide ((l0.getD i12_1.toNat 0) < (128 : UInt8)))) (fun g8 => ?_) (fun g8 => ?_)
        ·replace h := bif_t h g8
         obtain ⟨g7, h⟩ := gd_some h
         refine Vg hT fN [] [] [3, 1] (pReadOid_j1_E l0 i12_1 (w4_5 ++ [((shl64 y5_5 7) ||| (((l0.getD i12_1.toNat 0) &&& (127 : UInt8)).toUInt64)).toUInt32]) 0 false) (aP g7 aN) ?_
         exact ⟨_, _, _, rfl, h⟩
        ·replace h := bif_f h g8
         refine Vc [] [0, 1] (pReadOid_j1_E l0 i12_1 w4_5 ((shl64 y5_5 7) ||| (((l0.getD i12_1.toNat 0) &&& (127 : UInt8)).toUInt64)) true) (W_skip ?_)
         exact ⟨_, _, _, rfl, h⟩
    ·replace h := bif_f h g4
     refine Vg hT fN [(2, false)] [] [0, 1] ⟨[(4, kH 0), (5, kY y5_5), (8, kU (l0.getD i12_1.toNat 0)), (10, kH 1), (11, kI ((l0.length : Nat) : Int)), (12, kI i12_1), (26, kB (decide ((16 : Int) < ((w4_5.length : Nat) : Int))))], [], [nw 92 w4_5, ob 5 l0]⟩ (aP g4 aN) ?_
     refine Vi ((decide ((16 : Int) < ((w4_5.length : Nat) : Int)))) (fun g15 => ?_) (fun g15 => ?_)
     ·replace h := bif_t h g15
      refine Vrs hT [] ⟨[(2, .c (.nils)), (3, kE 38 (some 2))], [], []⟩ ?_
      refine Vc [.nil 2 92 1 (.w [])] [0] (pReadOid_R ([], (some 2))) (W_ret ?_)
      exact ⟨.inl rfl, by cases h; rfl⟩
     ·replace h := bif_f h g15
      refine W_skip ?_
      obtain ⟨g11, h⟩ := gd_some h
      refine Vgs hT fN [] [] [0, 1] ⟨[(4, kH 0), (5, kY ((shl64 y5_5 7) ||| (((l0.getD i12_1.toNat 0) &&& (127 : UInt8)).toUInt64))), (6, kB true), (8, kU (l0.getD i12_1.toNat 0)), (10, kH 1), (11, kI ((l0.length : Nat) : Int)), (12, kI i12_1)], [], [nw 92 w4_5, ob 5 l0]⟩ (aP g11 aN) ?_
      refine W_seq ?_
      refine Vrs hT [0, 1] ⟨[(4, kH 0), (5, kY ((shl64 y5_5 7) ||| (((l0.getD i12_1.toNat 0) &&& (127 : UInt8)).toUInt64))), (6, kB true), (8, kU (l0.getD i12_1.toNat 0)), (10, kH 1), (11, kI ((l0.length : Nat) : Int)), (12, kI i12_1), (35, kB (decide ((4294967296 : UInt64) ≤ ((shl64 y5_5 7) ||| (((l0.getD i12_1.toNat 0) &&& (127 : UInt8)).toUInt64)))))], [], [nw 92 w4_5, ob 5 l0]⟩ ?_
      refine Vi ((decide ((4294967296 : UInt64) ≤ ((shl64 y5_5 7) ||| (((l0.getD i12_1.toNat 0) &&& (127 : UInt8)).toUInt64))))) (fun g14 => ?_) (fun g14 => ?_)
      ·replace h := bif_t h g14
       refine Vrs hT [] ⟨[(2, .c (.nils)), (3, kE 38 (some 2))], [], []⟩ ?_
       refine Vc [.nil 2 92 1 (.w [])] [0] (pReadOid_R ([], (some 2))) (W_ret ?_)
       exact ⟨.inl rfl, by cases h; rfl⟩
      ·replace h := bif_f h g14
       refine W_skip ?_
       refine Vrs hT [0, 1] ⟨[(4, kH 0), (5, kY ((shl64 y5_5 7) ||| (((l0.getD i12_1.toNat 0) &&& (127 : UInt8)).toUInt64))), (6, kB true), (10, kH 1), (11, kI ((l0.length : Nat) : Int)), (12, kI i12_1), (38, kB (decide ((l0.getD i12_1.toNat 0) < (128 : UInt8))))], [], [nw 92 w4_5, ob 5 l0]⟩ ?_
       refine Vi ((decide ((l0.getD i12_1.toNat 0) < (128 : UInt8)))) (fun g13 => ?_) (fun g13 => ?_)
       ·replace h := bif_t h g13
        obtain ⟨g12, h⟩ := gd_some h
        refine Vg hT fN [] [] [3, 1] (pReadOid_j1_E l0 i12_1 (w4_5 ++ [((shl64 y5_5 7) ||| (((l0.getD i12_1.toNat 0) &&& (127 : UInt8)).toUInt64)).toUInt32]) 0 false) (aP g12 aN) ?_
        exact ⟨_, _, _, rfl, h⟩
       ·replace h := bif_f h g13
        refine Vc [] [0, 1] (pReadOid_j1_E l0 i12_1 w4_5 ((shl64 y5_5 7) ||| (((l0.getD i12_1.toNat 0) &&& (127 : UInt8)).toUInt64)) true) (W_skip ?_)
        exact ⟨_, _, _, rfl, h⟩
  ·replace h := bif_f h g29
   refine Vc [] [0] ⟨[(4, kH 0), (6, kB p6_5)], [], [nw 92 w4_5]⟩ (W_exit ?_)
   refine W_seq ?_
   refine W_seq ?_
   rcases Bool.eq_false_or_eq_true p6_5 with g16 | g16
   ·replace h := bif_t h g16
    refine Vg hT fN [(1, true)] [] [0] ⟨[(4, kH 0), (50, kB true)], [], [nw 92 w4_5]⟩ (aP g16 aN) ?_
    refine Vi (true) (fun _ => ?_) (fun hb => by cases hb)
    refine Vrs hT [] ⟨[(2, .c (.nils)), (3, kE 38 (some 2))], [], []⟩ ?_
    refine Vc [.nil 2 92 1 (.w [])] [0] (pReadOid_R ([], (some 2))) (W_ret ?_)
    exact ⟨.inl rfl, by cases h; rfl⟩
   ·replace h := bif_f h g16
    refine Vg hT fN [(1, false)] [] [0] ⟨[(4, kH 0), (50, kB (((w4_5.length : Nat) : Int) == 0))], [], [nw 92 w4_5]⟩ (aP g16 aN) ?_
    refine Vi ((((w4_5.length : Nat) : Int) == 0)) (fun g28 => ?_) (fun g28 => ?_)
    ·replace h := bif_t h g28
     refine Vrs hT [] ⟨[(2, .c (.nils)), (3, kE 38 (some 2))], [], []⟩ ?_
     refine Vc [.nil 2 92 1 (.w [])] [0] (pReadOid_R ([], (some 2))) (W_ret ?_)
     exact ⟨.inl rfl, by cases h; rfl⟩
    ·replace h := bif_f h g28
     refine W_skip ?_
     obtain ⟨g17, g18, g19, h⟩ := gd3 h
     refine Vgs hT fN [] [] [0] ⟨[(4, kH 0), (9, kX (if (2 : UInt32) < ((w4_5.getD 0 0) / (40 : UInt32)) then (2 : UInt32) else ((w4_5.getD 0 0) / (40 : UInt32))))], [], [nw 92 w4_5]⟩ (aP g17 (aP g18 (aP g19 aN))) ?_
     obtain ⟨g20, g21, g22, g23, g24, h⟩ := gd5 h
     obtain ⟨g25, h⟩ := gd_some h
     refine Vds hT (fT 11 cat_hW fN) 10 [] [(4, false), (64, false), (66, false)] [] [3] ⟨[(4, kH 0)], [], [nw 92 ((([[(if (2 : UInt32) < ((w4_5.getD 0 0) / (40 : UInt32)) then (2 : UInt32) else ((w4_5.getD 0 0) / (40 : UInt32))), ((w4_5.getD 0 0) - ((40 : UInt32) * (if (2 : UInt32) < ((w4_5.getD 0 0) / (40 : UInt32)) then (2 : UInt32) else ((w4_5.getD 0 0) / (40 : UInt32)))))], ((w4_5.drop 1).take (w4_5.length - 1))] : List (List UInt32))).flatten)]⟩ (aP g20 (aP g21 (aP g22 (aP g23 (aP g24 (aP g25 aN)))))) ?_
     refine W_seq ?_
     obtain ⟨r70_1, g26, h⟩ := bind_some' h
     refine Vgs hT (fT 1 (pident_ok n r70_1) fN) [] [] [0] ⟨[(4, kH 0), (71, kB (!r70_1))], [], [nw 92 ((([[(if (2 : UInt32) < ((w4_5.getD 0 0) / (40 : UInt32)) then (2 : UInt32) else ((w4_5.getD 0 0) / (40 : UInt32))), ((w4_5.getD 0 0) - ((40 : UInt32) * (if (2 : UInt32) < ((w4_5.getD 0 0) / (40 : UInt32)) then (2 : UInt32) else ((w4_5.getD 0 0) / (40 : UInt32)))))], ((w4_5.drop 1).take (w4_5.length - 1))] : List (List UInt32))).flatten)]⟩ (aP g26 aN) ?_
     refine Vi ((!r70_1)) (fun g27 => ?_) (fun g27 => ?_)
     ·replace h := bif_t h g27
      refine Vrs hT [] ⟨[(2, .c (.nils)), (3, kE 38 (some 2))], [], []⟩ ?_
      refine Vc [.nil 2 92 1 (.w [])] [0] (pReadOid_R ([], (some 2))) (W_ret ?_)
      exact ⟨.inl rfl, by cases h; rfl⟩
     ·replace h := bif_f h g27
      refine W_skip ?_
      refine Vrs hT [0] ⟨[(2, kH 0), (3, .c (.s (.v .nilIface)))], [], [nw 92 ((([[(if (2 : UInt32) < ((w4_5.getD 0 0) / (40 : UInt32)) then (2 : UInt32) else ((w4_5.getD 0 0) / (40 : UInt32))), ((w4_5.getD 0 0) - ((40 : UInt32) * (if (2 : UInt32) < ((w4_5.getD 0 0) / (40 : UInt32)) then (2 : UInt32) else ((w4_5.getD 0 0) / (40 : UInt32)))))], ((w4_5.drop 1).take (w4_5.length - 1))] : List (List UInt32))).flatten)]⟩ ?_
      refine Vc [.er 3 38 .i64] [0] (pReadOid_R (((([[(if (2 : UInt32) < ((w4_5.getD 0 0) / (40 : UInt32)) then (2 : UInt32) else ((w4_5.getD 0 0) / (40 : UInt32))), ((w4_5.getD 0 0) - ((40 : UInt32) * (if (2 : UInt32) < ((w4_5.getD 0 0) / (40 : UInt32)) then (2 : UInt32) else ((w4_5.getD 0 0) / (40 : UInt32)))))], ((w4_5.drop 1).take (w4_5.length - 1))] : List (List UInt32))).flatten), none)) (W_ret ?_)
      exact ⟨.inl rfl, by cases h; rfl⟩
def nOne_R (a0_0 : List UInt8) (r : Int × List Int × List UInt32 × UInt8 × List UInt8 × Option Int) : S := ⟨[(2, kP 3 0), (3, kE 38 r.2.2.2.2.2)], [(1000000, kP 0 0)], [⟨.blk, 89, 1, 3, .c [.wh 1, .s (.k .i64 r.1), .wh 2]⟩, nb 5 a0_0, nz 3 r.2.1, ⟨.blk, 46, 1, 3, .c [.wh 4, .s (.u8 r.2.2.2.1), .wh 5]⟩, nw 92 r.2.2.1, nb 5 r.2.2.2.2.1]⟩
def nOne_ct (n : Nat) (r : Int × List Int × List UInt32 × UInt8 × List UInt8 × Option Int) : CtM := ctM (cmm (mP 89 (mC (mB 5) (mC mI (mC (mZ 3) mN)))) fun y0 => cmR (nOne n y0.1 y0.2.1 y0.2.2.1 = some r) (.t [.g 3 (.c [.wh 3, .s (.u8 r.2.2.2.1), .wh 4]), .c (.s (.er 38 .i64 r.2.2.2.2.2))]) [⟨.blk, 89, 1, 3, .c [.wh 0, .s (.k .i64 r.1), .wh 1]⟩] [nb 5 y0.1, nz 3 r.2.1, ⟨.blk, 46, 1, 3, .c [.wh 3, .s (.u8 r.2.2.2.1), .wh 4]⟩, nw 92 r.2.2.1, nb 5 r.2.2.2.2.1])
theorem nOne_ok (n : Nat) (r : Int × List Int × List UInt32 × UInt8 × List UInt8 × Option Int) : FnMOk Try.prog 55 (nOne_ct n r) := by
 refine fnokM Try.func55 ?_
 refine HM_m (mP 89 (mC (mB 5) (mC mI (mC (mZ 3) mN)))) (fun (p0 : ((List UInt8) × (Int) × (List Int) × Unit)) => ?_) (allOwn_ok rfl)
 obtain ⟨l0_0, l0_1, l0_2, _⟩ := p0
 refine HM_0 tabO_nsa (nOne_R l0_0 r) [.cell 2 46, .tmp 3] [0, 1, 2, 3, 4, 5] 56 1 Try.func55 fun w bs h => ?_
 have h : nOne n l0_0 l0_1 l0_2 = some r := h
 unfold nOne at h
 have hT := tabO_nsa
 refine Vrs hT [0, 1, 2, 3] ⟨[(0, kP 0 0), (2, kP 3 0)], [(1000000, kP 0 0)], [⟨.blk, 89, 1, 3, .c [.wh 1, .s (.k .i64 l0_1), .wh 2]⟩, nb 5 l0_0, nz 3 l0_2, ⟨.blk, 46, 1, 3, .c [.nils, .s (.u8 0), .nils]⟩]⟩ ?_
 refine W_seq ?_
 obtain ⟨r12, g1, h⟩ := bind_some' h
 refine Vgs hT (fM 1 (tEnter_ok n r12) fN) [] [] [0, 4, 5, 3] ⟨[(0, kP 0 0), (2, kP 3 0), (4, kE 38 r12.2.2)], [(1000000, kP 0 0)], [⟨.blk, 89, 1, 3, .c [.wh 1, .s (.k .i64 r12.1), .wh 2]⟩, nb 5 l0_0, nz 3 r12.2.1, ⟨.blk, 46, 1, 3, .c [.nils, .s (.u8 0), .nils]⟩]⟩ (aP g1 aN) ?_
 refine Vrs hT [0, 1, 2, 3] ⟨[(0, kP 0 0), (2, kP 3 0), (4, kE 38 r12.2.2), (14, kB (!((r12.2.2).isNone)))], [(1000000, kP 0 0)], [⟨.blk, 89, 1, 3, .c [.wh 1, .s (.k .i64 r12.1), .wh 2]⟩, nb 5 l0_0, nz 3 r12.2.1, ⟨.blk, 46, 1, 3, .c [.nils, .s (.u8 0), .nils]⟩]⟩ ?_
 refine Vi ((!((r12.2.2).isNone))) (fun g10 => ?_) (fun g10 => ?_)
 ·replace h := bif_t h g10
  refine Vrs hT [0, 1, 2, 3] ⟨[(2, kP 3 0), (3, kE 38 r12.2.2)], [(1000000, kP 0 0)], [⟨.blk, 89, 1, 3, .c [.wh 1, .s (.k .i64 r12.1), .wh 2]⟩, nb 5 l0_0, nz 3 r12.2.1, ⟨.blk, 46, 1, 3, .c [.nils, .s (.u8 0), .nils]⟩]⟩ ?_
  refine Vc [.nlc 3 0 92 1 (.w []) none, .nlc 3 2 5 1 (.b []) none] [0, 1, 2, 3, 4, 5] (nOne_R l0_0 (r12.1, r12.2.1, [], 0, [], r12.2.2)) (W_ret ?_)
  exact ⟨.inl rfl, by cases h; rfl⟩
 ·replace h := bif_f h g10
  refine W_skip ?_
  obtain ⟨r19, g2, h⟩ := bind_some' h
  refine Vgs hT (fM 1 (tTake_ok n r19) fN) [] [] [0, 4, 5, 3, 6] ⟨[(0, kP 0 0), (2, kP 3 0), (5, kH 4), (6, kE 38 r19.2.2)], [(1000000, kP 0 0)], [⟨.blk, 89, 1, 3, .c [.wh 1, .s (.k .i64 r19.1), .wh 2]⟩, nb 5 l0_0, nz 3 r12.2.1, ⟨.blk, 46, 1, 3, .c [.nils, .s (.u8 0), .nils]⟩, nb 5 r19.2.1]⟩ (aP g2 aN) ?_
  refine W_seq ?_
  refine Vrs hT [0, 1, 2, 3, 4] ⟨[(0, kP 0 0), (2, kP 3 0), (5, kH 4), (6, kE 38 r19.2.2), (23, kB (!((r19.2.2).isNone)))], [(1000000, kP 0 0)], [⟨.blk, 89, 1, 3, .c [.wh 1, .s (.k .i64 r19.1), .wh 2]⟩, nb 5 l0_0, nz 3 r12.2.1, ⟨.blk, 46, 1, 3, .c [.nils, .s (.u8 0), .nils]⟩, nb 5 r19.2.1]⟩ ?_
  refine Vi ((!((r19.2.2).isNone))) (fun g9 => ?_) (fun g9 => ?_)
  ·replace h := bif_t h g9
   refine Vrs hT [0, 1, 2, 3] ⟨[(2, kP 3 0), (3, kE 38 r19.2.2)], [(1000000, kP 0 0)], [⟨.blk, 89, 1, 3, .c [.wh 1, .s (.k .i64 r19.1), .wh 2]⟩, nb 5 l0_0, nz 3 r12.2.1, ⟨.blk, 46, 1, 3, .c [.nils, .s (.u8 0), .nils]⟩]⟩ ?_
   refine Vc [.nlc 3 0 92 1 (.w []) none, .nlc 3 2 5 1 (.b []) none] [0, 1, 2, 3, 4, 5] (nOne_R l0_0 (r19.1, r12.2.1, [], 0, [], r19.2.2)) (W_ret ?_)
   exact ⟨.inl rfl, by cases h; rfl⟩
  ·replace h := bif_f h g9
   refine W_skip ?_
   obtain ⟨r28, g3, h⟩ := bind_some' h
   refine Vgs hT (fT 1 (pReadOid_ok n r28) fN) [] [] [0, 1, 2, 3, 5] ⟨[(0, kP 0 0), (2, kP 3 0), (6, kE 38 r28.2), (7, kH 4)], [(1000000, kP 0 0)], [⟨.blk, 89, 1, 3, .c [.wh 1, .s (.k .i64 r19.1), .wh 2]⟩, nb 5 l0_0, nz 3 r12.2.1, ⟨.blk, 46, 1, 3, .c [.nils, .s (.u8 0), .nils]⟩, nw 92 r28.1]⟩ (aP g3 aN) ?_
   refine W_seq ?_
   refine Vrs hT [0, 1, 2, 3, 4] ⟨[(0, kP 0 0), (2, kP 3 0), (6, kE 38 r28.2), (7, kH 4), (32, kB (!((r28.2).isNone)))], [(1000000, kP 0 0)], [⟨.blk, 89, 1, 3, .c [.wh 1, .s (.k .i64 r19.1), .wh 2]⟩, nb 5 l0_0, nz 3 r12.2.1, ⟨.blk, 46, 1, 3, .c [.nils, .s (.u8 0), .nils]⟩, nw 92 r28.1]⟩ ?_
   refine Vi ((!((r28.2).isNone))) (fun g8 => ?_) (fun g8 => ?_)
   ·replace h := bif_t h g8
    refine Vrs hT [0, 1, 2, 3] ⟨[(2, kP 3 0), (3, kE 38 r28.2)], [(1000000, kP 0 0)], [⟨.blk, 89, 1, 3, .c [.wh 1, .s (.k .i64 r19.1), .wh 2]⟩, nb 5 l0_0, nz 3 r12.2.1, ⟨.blk, 46, 1, 3, .c [.nils, .s (.u8 0), .nils]⟩]⟩ ?_
    refine Vc [.nlc 3 0 92 1 (.w []) none, .nlc 3 2 5 1 (.b []) none] [0, 1, 2, 3, 4, 5] (nOne_R l0_0 (r19.1, r12.2.1, [], 0, [], r28.2)) (W_ret ?_)
    exact ⟨.inl rfl, by cases h; rfl⟩
   ·replace h := bif_f h g8
    refine W_skip ?_
    obtain ⟨r37, g4, h⟩ := bind_some' h
    refine Vgs hT (fM 1 (tNext_ok n r37) fN) [] [] [0, 5, 6, 3, 4] ⟨[(0, kP 0 0), (2, kP 3 0), (7, kH 4), (8, kU r37.1)], [(1000000, kP 0 0)], [⟨.blk, 89, 1, 3, .c [.wh 1, .s (.k .i64 r19.1), .wh 2]⟩, nb 5 l0_0, nz 3 r12.2.1, ⟨.blk, 46, 1, 3, .c [.nils, .s (.u8 0), .nils]⟩, nw 92 r28.1]⟩ (aP g4 aN) ?_
    obtain ⟨r43, g5, h⟩ := bind_some' h
    refine Vgs hT (fM 2 (tTake_ok n r43) fN) [] [] [0, 5, 6, 3, 4, 7] ⟨[(0, kP 0 0), (2, kP 3 0), (6, kE 38 r43.2.2), (7, kH 4), (8, kU r37.1), (10, kH 5)], [(1000000, kP 0 0)], [⟨.blk, 89, 1, 3, .c [.wh 1, .s (.k .i64 r43.1), .wh 2]⟩, nb 5 l0_0, nz 3 r12.2.1, ⟨.blk, 46, 1, 3, .c [.nils, .s (.u8 0), .nils]⟩, nw 92 r28.1, nb 5 r43.2.1]⟩ (aP g5 aN) ?_
    refine W_seq ?_
    refine Vrs hT [0, 1, 2, 3, 4, 5] ⟨[(0, kP 0 0), (2, kP 3 0), (6, kE 38 r43.2.2), (7, kH 4), (8, kU r37.1), (10, kH 5), (47, kB (!((r43.2.2).isNone)))], [(1000000, kP 0 0)], [⟨.blk, 89, 1, 3, .c [.wh 1, .s (.k .i64 r43.1), .wh 2]⟩, nb 5 l0_0, nz 3 r12.2.1, ⟨.blk, 46, 1, 3, .c [.nils, .s (.u8 0), .nils]⟩, nw 92 r28.1, nb 5 r43.2.1]⟩ ?_
    refine Vi ((!((r43.2.2).isNone))) (fun g7 => ?_) (fun g7 => ?_)
    ·replace h := bif_t h g7
     refine Vrs hT [0, 1, 2, 3] ⟨[(2, kP 3 0), (3, kE 38 r43.2.2)], [(1000000, kP 0 0)], [⟨.blk, 89, 1, 3, .c [.wh 1, .s (.k .i64 r43.1), .wh 2]⟩, nb 5 l0_0, nz 3 r12.2.1, ⟨.blk, 46, 1, 3, .c [.nils, .s (.u8 0), .nils]⟩]⟩ ?_
     refine Vc [.nlc 3 0 92 1 (.w []) none, .nlc 3 2 5 1 (.b []) none] [0, 1, 2, 3, 4, 5] (nOne_R l0_0 (r43.1, r12.2.1, [], 0, [], r43.2.2)) (W_ret ?_)
     exact ⟨.inl rfl, by cases h; rfl⟩
    ·replace h := bif_f h g7
     refine W_skip ?_
     obtain ⟨r55, g6, h⟩ := bind_some' h
     refine Vgs hT (fM 5 (tLeave_ok n r55) fN) [] [] [0, 6, 7, 3, 4, 5] ⟨[(2, kP 3 0), (3, kE 38 r55.2)], [(1000000, kP 0 0)], [⟨.blk, 89, 1, 3, .c [.wh 1, .s (.k .i64 r43.1), .wh 2]⟩, nb 5 l0_0, nz 3 r55.1, ⟨.blk, 46, 1, 3, .c [.wh 4, .s (.u8 r37.1), .wh 5]⟩, nw 92 r28.1, nb 5 r43.2.1]⟩ (aP g6 aN) ?_
     refine Vc [] [0, 1, 2, 3, 4, 5] (nOne_R l0_0 (r43.1, r55.1, r28.1, r37.1, r43.2.1, r55.2)) (W_ret ?_)
     exact ⟨.inl rfl, by cases h; rfl⟩
def nSteps_j1_E (a0_0 : List UInt8) (ig1000000_1_32 : Int) (zg1000000_2_32 : List Int) (d5_4 : List (List (List UInt32 × (UInt8 × List UInt8)))) : S := ⟨[(0, kP 0 0), (5, kH 3)], [(1000000, kP 0 0)], [⟨.blk, 89, 1, 3, .c [.wh 1, .s (.k .i64 ig1000000_1_32), .wh 2]⟩, nb 5 a0_0, nz 3 zg1000000_2_32, ⟨.row, 47, 1, d5_4.length, .g 4 d5_4.length 1 []⟩, ⟨(.gs true), 47, 1, d5_4.length, .d (.sl 46 (.pr (.wo 92) (.pr .u8 (.by 5)))) d5_4⟩]⟩
abbrev nSteps_j1_P (n : Nat) (a0_0 : List UInt8) (r : Int × List Int × List (List (List UInt32 × (UInt8 × List UInt8))) × Option Int) : S → Prop := fun s => ∃ (ig1000000_1_32 : Int), ∃ (zg1000000_2_32 : List Int), ∃ (d5_4 : List (List (List UInt32 × (UInt8 × List UInt8)))), s = nSteps_j1_E a0_0 ig1000000_1_32 zg1000000_2_32 d5_4 ∧ nSteps_j1 n a0_0 ig1000000_1_32 zg1000000_2_32 d5_4 = some r
def nSteps_j2_E (a0_0 : List UInt8) (d5_5 : List (List (List UInt32 × (UInt8 × List UInt8)))) (ig1000000_1_41 : Int) (zg1000000_2_41 : List Int) (d9_34 : List (List UInt32 × (UInt8 × List UInt8))) : S := ⟨[(0, kP 0 0), (5, kH 3), (9, kH 5)], [(1000000, kP 0 0)], [⟨.blk, 89, 1, 3, .c [.wh 1, .s (.k .i64 ig1000000_1_41), .wh 2]⟩, nb 5 a0_0, nz 3 zg1000000_2_41, ⟨.row, 47, 1, d5_5.length, .g 4 d5_5.length 1 []⟩, ⟨(.gs true), 47, 1, d5_5.length, .d (.sl 46 (.pr (.wo 92) (.pr .u8 (.by 5)))) d5_5⟩, ⟨.row, 46, 3, d9_34.length, .g 6 d9_34.length 3 []⟩, ⟨(.gs true), 46, 3, d9_34.length, .d (.pr (.wo 92) (.pr .u8 (.by 5))) d9_34⟩]⟩
abbrev nSteps_j2_P (n : Nat) (a0_0 : List UInt8) (d5_5 : List (List (List UInt32 × (UInt8 × List UInt8)))) (k_l1 : Int → (List Int) → (List (List (List UInt32 × (UInt8 × List UInt8)))) → Option (Int × List Int × List (List (List UInt32 × (UInt8 × List UInt8))) × Option Int)) (r : Int × List Int × List (List (List UInt32 × (UInt8 × List UInt8))) × Option Int) : S → Prop := fun s => ∃ (ig1000000_1_41 : Int), ∃ (zg1000000_2_41 : List Int), ∃ (d9_34 : List (List UInt32 × (UInt8 × List UInt8))), s = nSteps_j2_E a0_0 d5_5 ig1000000_1_41 zg1000000_2_41 d9_34 ∧ nSteps_j2 n a0_0 d5_5 k_l1 ig1000000_1_41 zg1000000_2_41 d9_34 = some r
def nSteps_l2_E (a0_0 : List UInt8) (d5_5 : List (List (List UInt32 × (UInt8 × List UInt8)))) (ig1000000_1_42 : Int) (zg1000000_2_42 : List Int) (d9_35 : List (List UInt32 × (UInt8 × List UInt8))) : S := ⟨[(0, kP 0 0), (5, kH 3), (9, kH 5)], [(1000000, kP 0 0)], [⟨.blk, 89, 1, 3, .c [.wh 1, .s (.k .i64 ig1000000_1_42), .wh 2]⟩, nb 5 a0_0, nz 3 zg1000000_2_42, ⟨.row, 47, 1, d5_5.length, .g 4 d5_5.length 1 []⟩, ⟨(.gs true), 47, 1, d5_5.length, .d (.sl 46 (.pr (.wo 92) (.pr .u8 (.by 5)))) d5_5⟩, ⟨.row, 46, 3, d9_35.length, .g 6 d9_35.length 3 []⟩, ⟨(.gs true), 46, 3, d9_35.length, .d (.pr (.wo 92) (.pr .u8 (.by 5))) d9_35⟩]⟩
abbrev nSteps_l2_P (n : Nat) (a0_0 : List UInt8) (d5_5 : List (List (List UInt32 × (UInt8 × List UInt8)))) (k_l1 : Int → (List Int) → (List (List (List UInt32 × (UInt8 × List UInt8)))) → Option (Int × List Int × List (List (List UInt32 × (UInt8 × List UInt8))) × Option Int)) (r : Int × List Int × List (List (List UInt32 × (UInt8 × List UInt8))) × Option Int) (fu : Nat) : S → Prop := fun s => ∃ (ig1000000_1_42 : Int), ∃ (zg1000000_2_42 : List Int), ∃ (d9_35 : List (List UInt32 × (UInt8 × List UInt8))), s = nSteps_l2_E a0_0 d5_5 ig1000000_1_42 zg1000000_2_42 d9_35 ∧ nSteps_l2 n a0_0 d5_5 k_l1 fu ig1000000_1_42 zg1000000_2_42 d9_35 = some r
def nSteps_l1_E (a0_0 : List UInt8) (ig1000000_1_36 : Int) (zg1000000_2_36 : List Int) (d5_5 : List (List (List UInt32 × (UInt8 × List UInt8)))) : S := ⟨[(0, kP 0 0), (5, kH 3)], [(1000000, kP 0 0)], [⟨.blk, 89, 1, 3, .c [.wh 1, .s (.k .i64 ig1000000_1_36), .wh 2]⟩, nb 5 a0_0, nz 3 zg1000000_2_36, ⟨.row, 47, 1, d5_5.length, .g 4 d5_5.length 1 []⟩, ⟨(.gs true), 47, 1, d5_5.length, .d (.sl 46 (.pr (.wo 92) (.pr .u8 (.by 5)))) d5_5⟩]⟩
abbrev nSteps_l1_P (n : Nat) (a0_0 : List UInt8) (r : Int × List Int × List (List (List UInt32 × (UInt8 × List UInt8))) × Option Int) (fu : Nat) : S → Prop := fun s => ∃ (ig1000000_1_36 : Int), ∃ (zg1000000_2_36 : List Int), ∃ (d5_5 : List (List (List UInt32 × (UInt8 × List UInt8)))), s = nSteps_l1_E a0_0 ig1000000_1_36 zg1000000_2_36 d5_5 ∧ nSteps_l1 n a0_0 fu ig1000000_1_36 zg1000000_2_36 d5_5 = some r
def nSteps_R (a0_0 : List UInt8) (r : Int × List Int × List (List (List UInt32 × (UInt8 × List UInt8))) × Option Int) : S := ⟨[(2, kH 3), (3, kE 38 r.2.2.2)], [(1000000, kP 0 0)], [⟨.blk, 89, 1, 3, .c [.wh 1, .s (.k .i64 r.1), .wh 2]⟩, nb 5 a0_0, nz 3 r.2.1, ⟨(.dp true), 47, 1, r.2.2.1.length, .d (.sl 46 (.pr (.wo 92) (.pr .u8 (.by 5)))) r.2.2.1⟩]⟩
def nSteps_ct (n : Nat) (r : Int × List Int × List (List (List UInt32 × (UInt8 × List UInt8))) × Option Int) : CtM := ctM (cmm (mP 89 (mC (mB 5) (mC mI (mC (mZ 3) mN)))) fun y0 => cmR (nSteps n y0.1 y0.2.1 y0.2.2.1 = some r) (.t [.c (.wh 2), .c (.s (.er 38 .i64 r.2.2.2))]) [⟨.blk, 89, 1, 3, .c [.wh 0, .s (.k .i64 r.1), .wh 1]⟩] [nb 5 y0.1, nz 3 r.2.1, ⟨(.dp true), 47, 1, r.2.2.1.length, .d (.sl 46 (.pr (.wo 92) (.pr .u8 (.by 5)))) r.2.2.1⟩])
theorem nSteps_ok (n : Nat) (r : Int × List Int × List (List (List UInt32 × (UInt8 × List UInt8))) × Option Int) : FnMOk Try.prog 31 (nSteps_ct n r) := by
 refine fnokM Try.func31 ?_
 refine HM_m (mP 89 (mC (mB 5) (mC mI (mC (mZ 3) mN)))) (fun (p0 : ((List UInt8) × (Int) × (List Int) × Unit)) => ?_) (allOwn_ok rfl)
 obtain ⟨l0_0, l0_1, l0_2, _⟩ := p0
 refine HM_0 tabO_nsa (nSteps_R l0_0 r) [.tmp 2, .tmp 3] [0, 1, 2, 3] 70 1 Try.func31 fun w bs h => ?_
 have h : nSteps n l0_0 l0_1 l0_2 = some r := h
 unfold nSteps at h
 have hT := tabO_nsa
 refine Vrs hT [0, 1, 2] ⟨[(0, kP 0 0)], [(1000000, kP 0 0)], [⟨.blk, 89, 1, 3, .c [.wh 1, .s (.k .i64 l0_1), .wh 2]⟩, nb 5 l0_0, nz 3 l0_2]⟩ ?_
 refine W_seq ?_
 obtain ⟨r17, g1, h⟩ := bind_some' h
 refine Vgs hT (fM 1 (tEnter_ok n r17) fN) [] [] [0, 3, 4] ⟨[(0, kP 0 0), (4, kE 38 r17.2.2)], [(1000000, kP 0 0)], [⟨.blk, 89, 1, 3, .c [.wh 1, .s (.k .i64 r17.1), .wh 2]⟩, nb 5 l0_0, nz 3 r17.2.1]⟩ (aP g1 aN) ?_
 refine Vrs hT [0, 1, 2] ⟨[(0, kP 0 0), (4, kE 38 r17.2.2), (19, kB (!((r17.2.2).isNone)))], [(1000000, kP 0 0)], [⟨.blk, 89, 1, 3, .c [.wh 1, .s (.k .i64 r17.1), .wh 2]⟩, nb 5 l0_0, nz 3 r17.2.1]⟩ ?_
 refine Vi ((!((r17.2.2).isNone))) (fun g17 => ?_) (fun g17 => ?_)
 ·replace h := bif_t h g17
  refine Vrs hT [0, 1, 2] ⟨[(2, .c (.nils)), (3, kE 38 r17.2.2)], [(1000000, kP 0 0)], [⟨.blk, 89, 1, 3, .c [.wh 1, .s (.k .i64 r17.1), .wh 2]⟩, nb 5 l0_0, nz 3 r17.2.1]⟩ ?_
  refine W_cod [.dn 2 47 (.sl 46 (.pr (.wo 92) (.pr .u8 (.by 5))))] [] [] [2, 3] [0, 1, 2, 3] (s' := (nSteps_R l0_0 (r17.1, r17.2.1, [], r17.2.2))) (by kernel_rfl) (W_ret ?_)
  exact ⟨.inl rfl, by cases h; rfl⟩
 ·replace h := bif_f h g17
  refine W_skip ?_
  refine Vrs hT [0, 1, 2, 3] ⟨[(0, kP 0 0), (5, kH 3)], [(1000000, kP 0 0)], [⟨.blk, 89, 1, 3, .c [.wh 1, .s (.k .i64 r17.1), .wh 2]⟩, nb 5 l0_0, nz 3 r17.2.1, ⟨.row, 47, 1, 0, .c []⟩]⟩ ?_
  refine W_join (nSteps_j1_P n l0_0 r) ?_ ?_
  ·rintro _ ⟨ig1000000_1_32, zg1000000_2_32, d5_4, rfl, h⟩
   unfold nSteps_j1 at h
   refine W_seq ?_
   obtain ⟨r63_1, g2, h⟩ := bind_some' h
   refine Vgs hT (fM 1 (tLeave_ok n r63_1) fN) [] [] [0, 5, 6, 3, 4] ⟨[(0, kP 0 0), (5, kH 3), (15, kE 38 r63_1.2)], [(1000000, kP 0 0)], [⟨.blk, 89, 1, 3, .c [.wh 1, .s (.k .i64 ig1000000_1_32), .wh 2]⟩, nb 5 l0_0, nz 3 r63_1.1, ⟨.row, 47, 1, d5_4.length, .g 4 d5_4.length 1 []⟩, ⟨(.gs true), 47, 1, d5_4.length, .d (.sl 46 (.pr (.wo 92) (.pr .u8 (.by 5)))) d5_4⟩]⟩ (aP g2 aN) ?_
   refine Vrs hT [0, 1, 2, 3, 4] ⟨[(0, kP 0 0), (5, kH 3), (15, kE 38 r63_1.2), (65, kB (!((r63_1.2).isNone)))], [(1000000, kP 0 0)], [⟨.blk, 89, 1, 3, .c [.wh 1, .s (.k .i64 ig1000000_1_32), .wh 2]⟩, nb 5 l0_0, nz 3 r63_1.1, ⟨.row, 47, 1, d5_4.length, .g 4 d5_4.length 1 []⟩, ⟨(.gs true), 47, 1, d5_4.length, .d (.sl 46 (.pr (.wo 92) (.pr .u8 (.by 5)))) d5_4⟩]⟩ ?_
   refine Vi ((!((r63_1.2).isNone))) (fun g4 => ?_) (fun g4 => ?_)
   ·replace h := bif_t h g4
    refine Vrs hT [0, 1, 2] ⟨[(2, .c (.nils)), (3, kE 38 r63_1.2)], [(1000000, kP 0 0)], [⟨.blk, 89, 1, 3, .c [.wh 1, .s (.k .i64 ig1000000_1_32), .wh 2]⟩, nb 5 l0_0, nz 3 r63_1.1]⟩ ?_
    refine W_cod [.dn 2 47 (.sl 46 (.pr (.wo 92) (.pr .u8 (.by 5))))] [] [] [2, 3] [0, 1, 2, 3] (s' := (nSteps_R l0_0 (ig1000000_1_32, r63_1.1, [], r63_1.2))) (by kernel_rfl) (W_ret ?_)
    exact ⟨.inl rfl, by cases h; rfl⟩
   ·replace h := bif_f h g4
    refine W_skip ?_
    obtain ⟨r69_1, g3, h⟩ := bind_some' h
    refine Vgs hT (fM 2 (tEnd_ok n r69_1) fN) [] [] [0, 5, 6, 3, 4] ⟨[(2, kH 3), (3, kE 38 r69_1)], [(1000000, kP 0 0)], [⟨.blk, 89, 1, 3, .c [.wh 1, .s (.k .i64 ig1000000_1_32), .wh 2]⟩, nb 5 l0_0, nz 3 r63_1.1, ⟨.row, 47, 1, d5_4.length, .g 4 d5_4.length 1 []⟩, ⟨(.gs true), 47, 1, d5_4.length, .d (.sl 46 (.pr (.wo 92) (.pr .u8 (.by 5)))) d5_4⟩]⟩ (aP g3 aN) ?_
    refine W_cod [.fz 2] [d5_4.length] [] [2, 3] [0, 1, 2, 5] (s' := (nSteps_R l0_0 (ig1000000_1_32, r63_1.1, d5_4, r69_1))) (by kernel_rfl) (W_ret ?_)
    exact ⟨.inl rfl, by cases h; rfl⟩
  ·refine W_block ?_
   refine W_cod [.g0 3 (.sl 46 (.pr (.wo 92) (.pr .u8 (.by 5))))] [] [] [0, 5] [0, 1, 2, 3, 4] (s' := (nSteps_l1_E l0_0 r17.1 r17.2.1 [])) (by kernel_rfl) (W_lp ((nSteps_l1_P n l0_0 r)) n ⟨_, _, _, rfl, h⟩ ?_)
   rintro fu_l1 _ ⟨ig1000000_1_36, zg1000000_2_36, d5_5, rfl, h⟩
   cases fu_l1 with
   | zero => cases h
   | succ fu_l1 =>
    refine ⟨fu_l1, rfl, ?_⟩
    rw [nSteps_l1] at h
    refine W_block ?_
    refine W_seq ?_
    obtain ⟨r24_4, g5, h⟩ := bind_some' h
    refine Vgs hT (fM 1 (tNext_ok n r24_4) fN) [] [] [0, 5, 6, 3, 4] ⟨[(0, kP 0 0), (5, kH 3), (7, kB r24_4.2)], [(1000000, kP 0 0)], [⟨.blk, 89, 1, 3, .c [.wh 1, .s (.k .i64 ig1000000_1_36), .wh 2]⟩, nb 5 l0_0, nz 3 zg1000000_2_36, ⟨.row, 47, 1, d5_5.length, .g 4 d5_5.length 1 []⟩, ⟨(.gs true), 47, 1, d5_5.length, .d (.sl 46 (.pr (.wo 92) (.pr .u8 (.by 5)))) d5_5⟩]⟩ (aP g5 aN) ?_
    refine Vrs hT [0, 1, 2, 3, 4] ⟨[(0, kP 0 0), (5, kH 3), (28, kB (!r24_4.2))], [(1000000, kP 0 0)], [⟨.blk, 89, 1, 3, .c [.wh 1, .s (.k .i64 ig1000000_1_36), .wh 2]⟩, nb 5 l0_0, nz 3 zg1000000_2_36, ⟨.row, 47, 1, d5_5.length, .g 4 d5_5.length 1 []⟩, ⟨(.gs true), 47, 1, d5_5.length, .d (.sl 46 (.pr (.wo 92) (.pr .u8 (.by 5)))) d5_5⟩]⟩ ?_
    refine Vi ((!r24_4.2)) (fun g16 => ?_) (fun g16 => ?_)
    ·replace h := bif_t h g16
     refine Vc [] [0, 1, 2, 3, 4] (nSteps_j1_E l0_0 ig1000000_1_36 zg1000000_2_36 d5_5) (W_exit ?_)
     exact ⟨_, _, _, rfl, h⟩
    ·replace h := bif_f h g16
     refine W_skip ?_
     refine W_seq ?_
     obtain ⟨r30_4, g6, h⟩ := bind_some' h
     refine Vgs hT (fM 1 (tEnter_ok n r30_4) fN) [] [] [0, 5, 6, 3, 4] ⟨[(0, kP 0 0), (5, kH 3), (8, kE 38 r30_4.2.2)], [(1000000, kP 0 0)], [⟨.blk, 89, 1, 3, .c [.wh 1, .s (.k .i64 r30_4.1), .wh 2]⟩, nb 5 l0_0, nz 3 r30_4.2.1, ⟨.row, 47, 1, d5_5.length, .g 4 d5_5.length 1 []⟩, ⟨(.gs true), 47, 1, d5_5.length, .d (.sl 46 (.pr (.wo 92) (.pr .u8 (.by 5)))) d5_5⟩]⟩ (aP g6 aN) ?_
     refine Vrs hT [0, 1, 2, 3, 4] ⟨[(0, kP 0 0), (5, kH 3), (8, kE 38 r30_4.2.2), (32, kB (!((r30_4.2.2).isNone)))], [(1000000, kP 0 0)], [⟨.blk, 89, 1, 3, .c [.wh 1, .s (.k .i64 r30_4.1), .wh 2]⟩, nb 5 l0_0, nz 3 r30_4.2.1, ⟨.row, 47, 1, d5_5.length, .g 4 d5_5.length 1 []⟩, ⟨(.gs true), 47, 1, d5_5.length, .d (.sl 46 (.pr (.wo 92) (.pr .u8 (.by 5)))) d5_5⟩]⟩ ?_
     refine Vi ((!((r30_4.2.2).isNone))) (fun g15 => ?_) (fun g15 => ?_)
     ·replace h := bif_t h g15
      refine Vrs hT [0, 1, 2] ⟨[(2, .c (.nils)), (3, kE 38 r30_4.2.2)], [(1000000, kP 0 0)], [⟨.blk, 89, 1, 3, .c [.wh 1, .s (.k .i64 r30_4.1), .wh 2]⟩, nb 5 l0_0, nz 3 r30_4.2.1]⟩ ?_
      refine W_cod [.dn 2 47 (.sl 46 (.pr (.wo 92) (.pr .u8 (.by 5))))] [] [] [2, 3] [0, 1, 2, 3] (s' := (nSteps_R l0_0 (r30_4.1, r30_4.2.1, [], r30_4.2.2))) (by kernel_rfl) (W_ret ?_)
      exact ⟨.inl rfl, by cases h; rfl⟩
     ·replace h := bif_f h g15
      refine W_skip ?_
      refine Vrs hT [0, 1, 2, 3, 4] ⟨[(0, kP 0 0), (5, kH 3), (9, .c (.nils))], [(1000000, kP 0 0)], [⟨.blk, 89, 1, 3, .c [.wh 1, .s (.k .i64 r30_4.1), .wh 2]⟩, nb 5 l0_0, nz 3 r30_4.2.1, ⟨.row, 47, 1, d5_5.length, .g 4 d5_5.length 1 []⟩, ⟨(.gs true), 47, 1, d5_5.length, .d (.sl 46 (.pr (.wo 92) (.pr .u8 (.by 5)))) d5_5⟩]⟩ ?_
      refine W_join (nSteps_j2_P n l0_0 d5_5 (nSteps_l1 n l0_0 fu_l1) r) ?_ ?_
      ·rintro _ ⟨ig1000000_1_41, zg1000000_2_41, d9_34, rfl, h⟩
       unfold nSteps_j2 at h
       refine W_seq ?_
       obtain ⟨r54_11, g7, h⟩ := bind_some' h
       refine Vgs hT (fM 1 (tLeave_ok n r54_11) fN) [] [] [0, 7, 8, 3, 4, 5, 6] ⟨[(0, kP 0 0), (5, kH 3), (9, kH 5), (14, kE 38 r54_11.2)], [(1000000, kP 0 0)], [⟨.blk, 89, 1, 3, .c [.wh 1, .s (.k .i64 ig1000000_1_41), .wh 2]⟩, nb 5 l0_0, nz 3 r54_11.1, ⟨.row, 47, 1, d5_5.length, .g 4 d5_5.length 1 []⟩, ⟨(.gs true), 47, 1, d5_5.length, .d (.sl 46 (.pr (.wo 92) (.pr .u8 (.by 5)))) d5_5⟩, ⟨.row, 46, 3, d9_34.length, .g 6 d9_34.length 3 []⟩, ⟨(.gs true), 46, 3, d9_34.length, .d (.pr (.wo 92) (.pr .u8 (.by 5))) d9_34⟩]⟩ (aP g7 aN) ?_
       refine Vrs hT [0, 1, 2, 3, 4, 5, 6] ⟨[(0, kP 0 0), (5, kH 3), (9, kH 5), (14, kE 38 r54_11.2), (56, kB (!((r54_11.2).isNone)))], [(1000000, kP 0 0)], [⟨.blk, 89, 1, 3, .c [.wh 1, .s (.k .i64 ig1000000_1_41), .wh 2]⟩, nb 5 l0_0, nz 3 r54_11.1, ⟨.row, 47, 1, d5_5.length, .g 4 d5_5.length 1 []⟩, ⟨(.gs true), 47, 1, d5_5.length, .d (.sl 46 (.pr (.wo 92) (.pr .u8 (.by 5)))) d5_5⟩, ⟨.row, 46, 3, d9_34.length, .g 6 d9_34.length 3 []⟩, ⟨(.gs true), 46, 3, d9_34.length, .d (.pr (.wo 92) (.pr .u8 (.by 5))) d9_34⟩]⟩ ?_
       refine Vi ((!((r54_11.2).isNone))) (fun g9 => ?_) (fun g9 => ?_)
       ·replace h := bif_t h g9
        refine Vrs hT [0, 1, 2] ⟨[(2, .c (.nils)), (3, kE 38 r54_11.2)], [(1000000, kP 0 0)], [⟨.blk, 89, 1, 3, .c [.wh 1, .s (.k .i64 ig1000000_1_41), .wh 2]⟩, nb 5 l0_0, nz 3 r54_11.1]⟩ ?_
        refine W_cod [.dn 2 47 (.sl 46 (.pr (.wo 92) (.pr .u8 (.by 5))))] [] [] [2, 3] [0, 1, 2, 3] (s' := (nSteps_R l0_0 (ig1000000_1_41, r54_11.1, [], r54_11.2))) (by kernel_rfl) (W_ret ?_)
        exact ⟨.inl rfl, by cases h; rfl⟩
       ·replace h := bif_f h g9
        refine Vc [] [0, 1, 2, 3, 4, 5, 6] ⟨[(0, kP 0 0), (5, kH 3), (9, kH 5)], [(1000000, kP 0 0)], [⟨.blk, 89, 1, 3, .c [.wh 1, .s (.k .i64 ig1000000_1_41), .wh 2]⟩, nb 5 l0_0, nz 3 r54_11.1, ⟨.row, 47, 1, d5_5.length, .g 4 d5_5.length 1 []⟩, ⟨(.gs true), 47, 1, d5_5.length, .d (.sl 46 (.pr (.wo 92) (.pr .u8 (.by 5)))) d5_5⟩, ⟨.row, 46, 3, d9_34.length, .g 6 d9_34.length 3 []⟩, ⟨(.gs true), 46, 3, d9_34.length, .d (.pr (.wo 92) (.pr .u8 (.by 5))) d9_34⟩]⟩ (W_skip ?_)
        obtain ⟨g8, h⟩ := gd_some h
        refine W_weak ?_
        refine Vg hT fN [] [] [0, 1, 2, 8, 4, 5, 6] ⟨[(0, kP 0 0), (5, kH 3)], [(1000000, kP 0 0)], [⟨.blk, 89, 1, 3, .c [.wh 1, .s (.k .i64 ig1000000_1_41), .wh 2]⟩, nb 5 l0_0, nz 3 r54_11.1, ⟨.row, 47, 1, (d5_5.length + 1), .g 4 d5_5.length 1 [.wh 5]⟩, ⟨(.gs true), 47, 1, d5_5.length, .d (.sl 46 (.pr (.wo 92) (.pr .u8 (.by 5)))) d5_5⟩, ⟨.row, 46, 3, d9_34.length, .g 6 d9_34.length 3 []⟩, ⟨(.gs true), 46, 3, d9_34.length, .d (.pr (.wo 92) (.pr .u8 (.by 5))) d9_34⟩]⟩ (aP g8 aN) ?_
        refine ⟨[.fzc 3 0, .ab 3 [7]], [d9_34.length, d5_5.length], [], [0, 5], [0, 1, 2, 3, 8], (nSteps_l1_E l0_0 ig1000000_1_41 r54_11.1 (d5_5 ++ [d9_34])), (by kernel_rfl), ?_⟩
        exact ⟨_, _, _, rfl, h⟩
      ·refine W_block ?_
       refine W_cod [.co (.nil 9 46 3 (.c [])), .g0 5 (.pr (.wo 92) (.pr .u8 (.by 5)))] [] [] [0, 5, 9] [0, 1, 2, 3, 4, 5, 6] (s' := (nSteps_l2_E l0_0 d5_5 r30_4.1 r30_4.2.1 [])) (by kernel_rfl) (W_lp ((nSteps_l2_P n l0_0 d5_5 (nSteps_l1 n l0_0 fu_l1) r)) n ⟨_, _, _, rfl, h⟩ ?_)
       rintro fu_l2 _ ⟨ig1000000_1_42, zg1000000_2_42, d9_35, rfl, h⟩
       cases fu_l2 with
       | zero => cases h
       | succ fu_l2 =>
        refine ⟨fu_l2, rfl, ?_⟩
        rw [nSteps_l2] at h
        refine W_block ?_
        refine W_seq ?_
        obtain ⟨r36_28, g10, h⟩ := bind_some' h
        refine Vgs hT (fM 1 (tNext_ok n r36_28) fN) [] [] [0, 7, 8, 3, 4, 5, 6] ⟨[(0, kP 0 0), (5, kH 3), (9, kH 5), (11, kB r36_28.2)], [(1000000, kP 0 0)], [⟨.blk, 89, 1, 3, .c [.wh 1, .s (.k .i64 ig1000000_1_42), .wh 2]⟩, nb 5 l0_0, nz 3 zg1000000_2_42, ⟨.row, 47, 1, d5_5.length, .g 4 d5_5.length 1 []⟩, ⟨(.gs true), 47, 1, d5_5.length, .d (.sl 46 (.pr (.wo 92) (.pr .u8 (.by 5)))) d5_5⟩, ⟨.row, 46, 3, d9_35.length, .g 6 d9_35.length 3 []⟩, ⟨(.gs true), 46, 3, d9_35.length, .d (.pr (.wo 92) (.pr .u8 (.by 5))) d9_35⟩]⟩ (aP g10 aN) ?_
        refine Vrs hT [0, 1, 2, 3, 4, 5, 6] ⟨[(0, kP 0 0), (5, kH 3), (9, kH 5), (40, kB (!r36_28.2))], [(1000000, kP 0 0)], [⟨.blk, 89, 1, 3, .c [.wh 1, .s (.k .i64 ig1000000_1_42), .wh 2]⟩, nb 5 l0_0, nz 3 zg1000000_2_42, ⟨.row, 47, 1, d5_5.length, .g 4 d5_5.length 1 []⟩, ⟨(.gs true), 47, 1, d5_5.length, .d (.sl 46 (.pr (.wo 92) (.pr .u8 (.by 5)))) d5_5⟩, ⟨.row, 46, 3, d9_35.length, .g 6 d9_35.length 3 []⟩, ⟨(.gs true), 46, 3, d9_35.length, .d (.pr (.wo 92) (.pr .u8 (.by 5))) d9_35⟩]⟩ ?_
        refine Vi ((!r36_28.2)) (fun g14 => ?_) (fun g14 => ?_)
        ·replace h := bif_t h g14
         refine Vc [] [0, 1, 2, 3, 4, 5, 6] (nSteps_j2_E l0_0 d5_5 ig1000000_1_42 zg1000000_2_42 d9_35) (W_exit ?_)
         exact ⟨_, _, _, rfl, h⟩
        ·replace h := bif_f h g14
         refine W_skip ?_
         obtain ⟨r43_28, g11, h⟩ := bind_some' h
         refine Vgs hT (fM 1 (nOne_ok n r43_28) fN) [] [] [0, 7, 8, 3, 4, 5, 6, 12, 10, 11] ⟨[(0, kP 0 0), (5, kH 3), (9, kH 5), (12, kP 7 0), (13, kE 38 r43_28.2.2.2.2.2)], [(1000000, kP 0 0)], [⟨.blk, 89, 1, 3, .c [.wh 1, .s (.k .i64 r43_28.1), .wh 2]⟩, nb 5 l0_0, nz 3 r43_28.2.1, ⟨.row, 47, 1, d5_5.length, .g 4 d5_5.length 1 []⟩, ⟨(.gs true), 47, 1, d5_5.length, .d (.sl 46 (.pr (.wo 92) (.pr .u8 (.by 5)))) d5_5⟩, ⟨.row, 46, 3, d9_35.length, .g 6 d9_35.length 3 []⟩, ⟨(.gs true), 46, 3, d9_35.length, .d (.pr (.wo 92) (.pr .u8 (.by 5))) d9_35⟩, ⟨.blk, 46, 1, 3, .c [.wh 8, .s (.u8 r43_28.2.2.2.1), .wh 9]⟩, nw 92 r43_28.2.2.1, nb 5 r43_28.2.2.2.2.1]⟩ (aP g11 aN) ?_
         refine W_seq ?_
         refine Vrs hT [0, 1, 2, 3, 4, 5, 6, 7, 8, 9] ⟨[(0, kP 0 0), (5, kH 3), (9, kH 5), (12, kP 7 0), (13, kE 38 r43_28.2.2.2.2.2), (47, kB (!((r43_28.2.2.2.2.2).isNone)))], [(1000000, kP 0 0)], [⟨.blk, 89, 1, 3, .c [.wh 1, .s (.k .i64 r43_28.1), .wh 2]⟩, nb 5 l0_0, nz 3 r43_28.2.1, ⟨.row, 47, 1, d5_5.length, .g 4 d5_5.length 1 []⟩, ⟨(.gs true), 47, 1, d5_5.length, .d (.sl 46 (.pr (.wo 92) (.pr .u8 (.by 5)))) d5_5⟩, ⟨.row, 46, 3, d9_35.length, .g 6 d9_35.length 3 []⟩, ⟨(.gs true), 46, 3, d9_35.length, .d (.pr (.wo 92) (.pr .u8 (.by 5))) d9_35⟩, ⟨.blk, 46, 1, 3, .c [.wh 8, .s (.u8 r43_28.2.2.2.1), .wh 9]⟩, nw 92 r43_28.2.2.1, nb 5 r43_28.2.2.2.2.1]⟩ ?_
         refine Vi ((!((r43_28.2.2.2.2.2).isNone))) (fun g13 => ?_) (fun g13 => ?_)
         ·replace h := bif_t h g13
          refine Vrs hT [0, 1, 2] ⟨[(2, .c (.nils)), (3, kE 38 r43_28.2.2.2.2.2)], [(1000000, kP 0 0)], [⟨.blk, 89, 1, 3, .c [.wh 1, .s (.k .i64 r43_28.1), .wh 2]⟩, nb 5 l0_0, nz 3 r43_28.2.1]⟩ ?_
          refine W_cod [.dn 2 47 (.sl 46 (.pr (.wo 92) (.pr .u8 (.by 5))))] [] [] [2, 3] [0, 1, 2, 3] (s' := (nSteps_R l0_0 (r43_28.1, r43_28.2.1, [], r43_28.2.2.2.2.2))) (by kernel_rfl) (W_ret ?_)
          exact ⟨.inl rfl, by cases h; rfl⟩
         ·replace h := bif_f h g13
          refine Vc [] [0, 1, 2, 3, 4, 5, 6, 7, 8, 9] ⟨[(0, kP 0 0), (5, kH 3), (9, kH 5), (12, kP 7 0)], [(1000000, kP 0 0)], [⟨.blk, 89, 1, 3, .c [.wh 1, .s (.k .i64 r43_28.1), .wh 2]⟩, nb 5 l0_0, nz 3 r43_28.2.1, ⟨.row, 47, 1, d5_5.length, .g 4 d5_5.length 1 []⟩, ⟨(.gs true), 47, 1, d5_5.length, .d (.sl 46 (.pr (.wo 92) (.pr .u8 (.by 5)))) d5_5⟩, ⟨.row, 46, 3, d9_35.length, .g 6 d9_35.length 3 []⟩, ⟨(.gs true), 46, 3, d9_35.length, .d (.pr (.wo 92) (.pr .u8 (.by 5))) d9_35⟩, ⟨.blk, 46, 1, 3, .c [.wh 8, .s (.u8 r43_28.2.2.2.1), .wh 9]⟩, nw 92 r43_28.2.2.1, nb 5 r43_28.2.2.2.2.1]⟩ (W_skip ?_)
          obtain ⟨g12, h⟩ := gd_some h
          refine W_weak ?_
          refine Vg hT fN [] [] [0, 1, 2, 3, 4, 11, 6, 8, 9] ⟨[(0, kP 0 0), (5, kH 3), (9, kH 5)], [(1000000, kP 0 0)], [⟨.blk, 89, 1, 3, .c [.wh 1, .s (.k .i64 r43_28.1), .wh 2]⟩, nb 5 l0_0, nz 3 r43_28.2.1, ⟨.row, 47, 1, d5_5.length, .g 4 d5_5.length 1 []⟩, ⟨(.gs true), 47, 1, d5_5.length, .d (.sl 46 (.pr (.wo 92) (.pr .u8 (.by 5)))) d5_5⟩, ⟨.row, 46, 3, (d9_35.length + 1), .g 6 d9_35.length 3 [.wh 7, .s (.u8 r43_28.2.2.2.1), .wh 8]⟩, ⟨(.gs true), 46, 3, d9_35.length, .d (.pr (.wo 92) (.pr .u8 (.by 5))) d9_35⟩, nw 92 r43_28.2.2.1, nb 5 r43_28.2.2.2.2.1]⟩ (aP g12 aN) ?_
          refine ⟨[.ab 5 [7, 8]], [d9_35.length], [], [0, 5, 9], [0, 1, 2, 3, 4, 5, 9], (nSteps_l2_E l0_0 d5_5 r43_28.1 r43_28.2.1 (d9_35 ++ [(r43_28.2.2.1, (r43_28.2.2.2.1, r43_28.2.2.2.2.1))])), (by kernel_rfl), ?_⟩
          exact ⟨_, _, _, rfl, h⟩
def nRead_R (r : List (List (List UInt32 × (UInt8 × List UInt8))) × Option Int) : S := ⟨[(2, kH 0), (3, kE 38 r.2)], [], [⟨(.dp true), 47, 1, r.1.length, .d (.sl 46 (.pr (.wo 92) (.pr .u8 (.by 5)))) r.1⟩]⟩
def nRead_ct (n : Nat) (r : List (List (List UInt32 × (UInt8 × List UInt8))) × Option Int) : Ct := ctc (rB 5).rd fun _ l0 => ct0 fun H => ([nRead n l0 = some r], shA H.length (.t [.c (.wh 0), .c (.s (.er 38 .i64 r.2))]), shH H.length [⟨(.dp true), 47, 1, r.1.length, .d (.sl 46 (.pr (.wo 92) (.pr .u8 (.by 5)))) r.1⟩])
theorem nRead_ok (n : Nat) (r : List (List (List UInt32 × (UInt8 × List UInt8))) × Option Int) : FnOk Try.prog Tr 21 (nRead_ct n r) := by
 refine fnok Try.func21 ?_
 refine HO_c (rB 5) fun l0 _ => HO_0 tabO_nsa (nRead_R r) [.tmp 2, .tmp 3] [0] 21 Try.func21 fun w hG h => ?_
 unfold nRead at h
 have hT := tabO_nsa
 refine Vrs hT [0] ⟨[(0, kH 0)], [], [ob 5 l0]⟩ ?_
 obtain ⟨r8, g1, h⟩ := bind_some' h
 obtain ⟨r9, g2, h⟩ := bind_some' h
 refine Vgs hT (fT 1 (tNewR_ok n r8) (fM 2 (nSteps_ok n r9) fN)) [] [] [6] ⟨[(4, kH 0), (5, kE 38 r9.2.2.2)], [], [⟨(.dp true), 47, 1, r9.2.2.1.length, .d (.sl 46 (.pr (.wo 92) (.pr .u8 (.by 5)))) r9.2.2.1⟩]⟩ (aP g1 (aP g2 aN)) ?_
 refine W_seq ?_
 refine W_seq ?_
 rcases Bool.eq_false_or_eq_true (!((r9.2.2.2).isNone)) with g3 | g3
 ·replace h := bif_t h g3
  refine Vg hT fN [(2, true)] [] [0] ⟨[(4, kH 0), (18, kB true)], [], [⟨(.dp true), 47, 1, r9.2.2.1.length, .d (.sl 46 (.pr (.wo 92) (.pr .u8 (.by 5)))) r9.2.2.1⟩]⟩ (aP g3 aN) ?_
  refine Vi (true) (fun _ => ?_) (fun hb => by cases hb)
  refine Vrs hT [] ⟨[(2, .c (.nils)), (3, kE 38 (some 2))], [], []⟩ ?_
  refine W_cod [.dn 2 47 (.sl 46 (.pr (.wo 92) (.pr .u8 (.by 5))))] [] [] [2, 3] [0] (s' := (nRead_R ([], (some 2)))) (by kernel_rfl) (W_ret ?_)
  exact ⟨.inl rfl, by cases h; rfl⟩
 ·replace h := bif_f h g3
  obtain ⟨r16, g4, h⟩ := bind_some' h
  refine Vg hT (fT 4 (nCheck_ok n r16) fN) [(2, false)] [] [0] ⟨[(4, kH 0), (18, kB (!((r16).isNone)))], [], [⟨(.dp true), 47, 1, r9.2.2.1.length, .d (.sl 46 (.pr (.wo 92) (.pr .u8 (.by 5)))) r9.2.2.1⟩]⟩ (aP g3 (aP g4 aN)) ?_
  refine Vi ((!((r16).isNone))) (fun g5 => ?_) (fun g5 => ?_)
  ·replace h := bif_t h g5
   refine Vrs hT [] ⟨[(2, .c (.nils)), (3, kE 38 (some 2))], [], []⟩ ?_
   refine W_cod [.dn 2 47 (.sl 46 (.pr (.wo 92) (.pr .u8 (.by 5))))] [] [] [2, 3] [0] (s' := (nRead_R ([], (some 2)))) (by kernel_rfl) (W_ret ?_)
   exact ⟨.inl rfl, by cases h; rfl⟩
  ·replace h := bif_f h g5
   refine W_skip ?_
   refine Vrs hT [0] ⟨[(2, kH 0), (3, .c (.s (.v .nilIface)))], [], [⟨(.dp true), 47, 1, r9.2.2.1.length, .d (.sl 46 (.pr (.wo 92) (.pr .u8 (.by 5)))) r9.2.2.1⟩]⟩ ?_
   refine Vc [.er 3 38 .i64] [0] (nRead_R (r9.2.2.1, none)) (W_ret ?_)
   exact ⟨.inl rfl, by cases h; rfl⟩
def rSame_l2_E (a0 : List (List (List UInt32 × (UInt8 × List UInt8)))) (a1 : List (List (List UInt32 × (UInt8 × List UInt8)))) (i5_2 : Int) (i6_8 : Int) : S := ⟨[(0, kH 0), (1, kH 1), (5, kI i5_2), (6, kI i6_8)], [], [⟨(.dp false), 47, 1, a0.length, .d (.sl 46 (.pr (.wo 92) (.pr .u8 (.by 5)))) a0⟩, ⟨(.dp false), 47, 1, a1.length, .d (.sl 46 (.pr (.wo 92) (.pr .u8 (.by 5)))) a1⟩]⟩
abbrev rSame_l2_P (n : Nat) (a0 : List (List (List UInt32 × (UInt8 × List UInt8)))) (a1 : List (List (List UInt32 × (UInt8 × List UInt8)))) (i5_2 : Int) (k_l1 : Int → Option (Bool)) (r : Bool) (fu : Nat) : S → Prop := fun s => ∃ (i6_8 : Int), s = rSame_l2_E a0 a1 i5_2 i6_8 ∧ rSame_l2 n a0 a1 i5_2 k_l1 fu i6_8 = some r
def rSame_l1_E (a0 : List (List (List UInt32 × (UInt8 × List UInt8)))) (a1 : List (List (List UInt32 × (UInt8 × List UInt8)))) (i5_2 : Int) : S := ⟨[(0, kH 0), (1, kH 1), (5, kI i5_2)], [], [⟨(.dp false), 47, 1, a0.length, .d (.sl 46 (.pr (.wo 92) (.pr .u8 (.by 5)))) a0⟩, ⟨(.dp false), 47, 1, a1.length, .d (.sl 46 (.pr (.wo 92) (.pr .u8 (.by 5)))) a1⟩]⟩
abbrev rSame_l1_P (n : Nat) (a0 : List (List (List UInt32 × (UInt8 × List UInt8)))) (a1 : List (List (List UInt32 × (UInt8 × List UInt8)))) (r : Bool) (fu : Nat) : S → Prop := fun s => ∃ (i5_2 : Int), s = rSame_l1_E a0 a1 i5_2 ∧ rSame_l1 n a0 a1 fu i5_2 = some r
def rSame_R (r : Bool) : S := ⟨[(4, kB r)], [], []⟩
def rSame_ct (n : Nat) (r : Bool) : Ct := ctc (rD 47 (.sl 46 (.pr (.wo 92) (.pr .u8 (.by 5))))).rd fun _ l0 => ctc (rD 47 (.sl 46 (.pr (.wo 92) (.pr .u8 (.by 5))))).rd fun _ l1 => ct0 fun H => ([rSame n l0 l1 = some r], shA H.length (kB r), shH H.length [])
theorem rSame_ok (n : Nat) (r : Bool) : FnOk Try.prog Tr 23 (rSame_ct n r) := by
 refine fnok Try.func23 ?_
 refine HO_c (rD 47 (.sl 46 (.pr (.wo 92) (.pr .u8 (.by 5))))) fun (l0 : List (List (List UInt32 × (UInt8 × List UInt8)))) _ => HO_c (rD 47 (.sl 46 (.pr (.wo 92) (.pr .u8 (.by 5))))) fun (l1 : List (List (List UInt32 × (UInt8 × List UInt8)))) _ => HO_0 tabO_nsa (rSame_R r) [.tmp 4] [] 96 Try.func23 fun w hG h => ?_
 unfold rSame at h
 have hT := tabO_nsa
 refine Vrs hT [0, 1] ⟨[(0, kH 0), (1, kH 1)], [], [⟨(.dp false), 47, 1, l0.length, .d (.sl 46 (.pr (.wo 92) (.pr .u8 (.by 5)))) l0⟩, ⟨(.dp false), 47, 1, l1.length, .d (.sl 46 (.pr (.wo 92) (.pr .u8 (.by 5)))) l1⟩]⟩ ?_
 refine W_seq ?_
 refine Vrs hT [0, 1] ⟨[(0, kH 0), (1, kH 1), (11, kB (((l0.length : Nat) : Int) != ((l1.length : Nat) : Int)))], [], [⟨(.dp false), 47, 1, l0.length, .d (.sl 46 (.pr (.wo 92) (.pr .u8 (.by 5)))) l0⟩, ⟨(.dp false), 47, 1, l1.length, .d (.sl 46 (.pr (.wo 92) (.pr .u8 (.by 5)))) l1⟩]⟩ ?_
 refine Vi ((((l0.length : Nat) : Int) != ((l1.length : Nat) : Int))) (fun g40 => ?_) (fun g40 => ?_)
 ·replace h := bif_t h g40
  refine Vrs hT [] ⟨[(4, kB false)], [], []⟩ ?_
  refine Vc [] [] (rSame_R false) (W_ret ?_)
  exact ⟨.inl rfl, by cases h; rfl⟩
 ·replace h := bif_f h g40
  refine W_skip ?_
  refine W_seq ?_
  refine Vrs hT [0, 1] ⟨[(0, kH 0), (1, kH 1), (5, kI 0)], [], [⟨(.dp false), 47, 1, l0.length, .d (.sl 46 (.pr (.wo 92) (.pr .u8 (.by 5)))) l0⟩, ⟨(.dp false), 47, 1, l1.length, .d (.sl 46 (.pr (.wo 92) (.pr .u8 (.by 5)))) l1⟩]⟩ ?_
  refine W_block ?_
  refine Vc [] [0, 1] (rSame_l1_E l0 l1 0) (W_lp ((rSame_l1_P n l0 l1 r)) n ⟨_, rfl, h⟩ ?_)
  rintro fu_l1 _ ⟨i5_2, rfl, h⟩
  cases fu_l1 with
  | zero => cases h
  | succ fu_l1 =>
   refine ⟨fu_l1, rfl, ?_⟩
   rw [rSame_l1] at h
   refine W_seq ?_
   refine Vrs hT [0, 1] ⟨[(0, kH 0), (1, kH 1), (5, kI i5_2), (15, kB (decide (i5_2 < ((l0.length : Nat) : Int))))], [], [⟨(.dp false), 47, 1, l0.length, .d (.sl 46 (.pr (.wo 92) (.pr .u8 (.by 5)))) l0⟩, ⟨(.dp false), 47, 1, l1.length, .d (.sl 46 (.pr (.wo 92) (.pr .u8 (.by 5)))) l1⟩]⟩ ?_
   refine Vi ((decide (i5_2 < ((l0.length : Nat) : Int)))) (fun g39 => ?_) (fun g39 => ?_)
   ·replace h := bif_t h g39
    refine W_skip ?_
    refine W_seq ?_
    refine W_block ?_
    refine W_seq ?_
    obtain ⟨g1, g2, g3, g4, h⟩ := gd4 h
    refine Vds hT fN 10 [] [(0, false), (1, false), (5, false), (22, false), (27, false)] [] [0, 1] ⟨[(0, kH 0), (1, kH 1), (5, kI i5_2), (28, kB ((((l0.getD i5_2.toNat []).length : Nat) : Int) != (((l1.getD i5_2.toNat []).length : Nat) : Int)))], [], [⟨(.dp false), 47, 1, l0.length, .d (.sl 46 (.pr (.wo 92) (.pr .u8 (.by 5)))) l0⟩, ⟨(.dp false), 47, 1, l1.length, .d (.sl 46 (.pr (.wo 92) (.pr .u8 (.by 5)))) l1⟩]⟩ (aP g1 (aP g2 (aP g3 (aP g4 aN)))) ?_
    refine Vi (((((l0.getD i5_2.toNat []).length : Nat) : Int) != (((l1.getD i5_2.toNat []).length : Nat) : Int))) (fun g38 => ?_) (fun g38 => ?_)
    ·replace h := bif_t h g38
     refine Vrs hT [] ⟨[(4, kB false)], [], []⟩ ?_
     refine Vc [] [] (rSame_R false) (W_ret ?_)
     exact ⟨.inl rfl, by cases h; rfl⟩
    ·replace h := bif_f h g38
     refine W_skip ?_
     refine Vrs hT [0, 1] ⟨[(0, kH 0), (1, kH 1), (5, kI i5_2), (6, kI 0)], [], [⟨(.dp false), 47, 1, l0.length, .d (.sl 46 (.pr (.wo 92) (.pr .u8 (.by 5)))) l0⟩, ⟨(.dp false), 47, 1, l1.length, .d (.sl 46 (.pr (.wo 92) (.pr .u8 (.by 5)))) l1⟩]⟩ ?_
     refine W_block ?_
     refine Vc [] [0, 1] (rSame_l2_E l0 l1 i5_2 0) (W_lp ((rSame_l2_P n l0 l1 i5_2 (rSame_l1 n l0 l1 fu_l1) r)) n ⟨_, rfl, h⟩ ?_)
     rintro fu_l2 _ ⟨i6_8, rfl, h⟩
     cases fu_l2 with
     | zero => cases h
     | succ fu_l2 =>
      refine ⟨fu_l2, rfl, ?_⟩
      rw [rSame_l2] at h
      refine W_seq ?_
      obtain ⟨g5, g6, h⟩ := gd2 h
      refine Vgs hT fN [] [] [0, 1] ⟨[(0, kH 0), (1, kH 1), (5, kI i5_2), (6, kI i6_8), (35, kB (decide (i6_8 < (((l0.getD i5_2.toNat []).length : Nat) : Int))))], [], [⟨(.dp false), 47, 1, l0.length, .d (.sl 46 (.pr (.wo 92) (.pr .u8 (.by 5)))) l0⟩, ⟨(.dp false), 47, 1, l1.length, .d (.sl 46 (.pr (.wo 92) (.pr .u8 (.by 5)))) l1⟩]⟩ (aP g5 (aP g6 aN)) ?_
      refine Vi ((decide (i6_8 < (((l0.getD i5_2.toNat []).length : Nat) : Int)))) (fun g37 => ?_) (fun g37 => ?_)
      ·replace h := bif_t h g37
       refine Vc [] [0, 1] ⟨[(0, kH 0), (1, kH 1), (5, kI i5_2), (6, kI i6_8)], [], [⟨(.dp false), 47, 1, l0.length, .d (.sl 46 (.pr (.wo 92) (.pr .u8 (.by 5)))) l0⟩, ⟨(.dp false), 47, 1, l1.length, .d (.sl 46 (.pr (.wo 92) (.pr .u8 (.by 5)))) l1⟩]⟩ (W_skip ?_)
       refine W_seq ?_
       refine W_block ?_
       refine W_seq ?_
       obtain ⟨g7, g8, g9, g10, g11, h⟩ := gd5 h
       obtain ⟨g12, g13, g14, h⟩ := gd3 h
       obtain ⟨r54_12, g15, h⟩ := bind_some' h
       rcases Bool.eq_false_or_eq_true (!r54_12) with g16 | g16
       ·replace h := bif_t h g16
        refine Vd hT (fT 16 (sameTy_ok n r54_12) fN) 56 [(18, true)] [(0, false), (1, false), (5, false), (6, false), (75, false), (84, false), (93, false)] [] [0, 1] ⟨[(0, kH 0), (1, kH 1), (5, kI i5_2), (6, kI i6_8), (95, kB true)], [], [⟨(.dp false), 47, 1, l0.length, .d (.sl 46 (.pr (.wo 92) (.pr .u8 (.by 5)))) l0⟩, ⟨(.dp false), 47, 1, l1.length, .d (.sl 46 (.pr (.wo 92) (.pr .u8 (.by 5)))) l1⟩]⟩ (aP g7 (aP g8 (aP g9 (aP g10 (aP g11 (aP g12 (aP g13 (aP g14 (aP g15 (aP g16 aN)))))))))) ?_
        refine Vi (true) (fun _ => ?_) (fun hb => by cases hb)
        refine Vrs hT [] ⟨[(4, kB false)], [], []⟩ ?_
        refine Vc [] [] (rSame_R false) (W_ret ?_)
        exact ⟨.inl rfl, by cases h; rfl⟩
       ·replace h := bif_f h g16
        obtain ⟨g17, g18, g19, g20, g21, h⟩ := gd5 h
        obtain ⟨g22, g23, g24, h⟩ := gd3 h
        rcases Bool.eq_false_or_eq_true ((((l0.getD i5_2.toNat []).getD i6_8.toNat ([], (0, []))).2.1) != (((l1.getD i5_2.toNat []).getD i6_8.toNat ([], (0, []))).2.1)) with g25 | g25
        ·replace h := bif_t h g25
         refine Vd hT (fT 16 (sameTy_ok n r54_12) fN) 56 [(18, false), (37, true)] [(0, false), (1, false), (5, false), (6, false), (75, false), (84, false), (93, false)] [] [0, 1] ⟨[(0, kH 0), (1, kH 1), (5, kI i5_2), (6, kI i6_8), (95, kB true)], [], [⟨(.dp false), 47, 1, l0.length, .d (.sl 46 (.pr (.wo 92) (.pr .u8 (.by 5)))) l0⟩, ⟨(.dp false), 47, 1, l1.length, .d (.sl 46 (.pr (.wo 92) (.pr .u8 (.by 5)))) l1⟩]⟩ (aP g7 (aP g8 (aP g9 (aP g10 (aP g11 (aP g12 (aP g13 (aP g14 (aP g15 (aP g16 (aP g17 (aP g18 (aP g19 (aP g20 (aP g21 (aP g22 (aP g23 (aP g24 (aP g25 aN))))))))))))))))))) ?_
         refine Vi (true) (fun _ => ?_) (fun hb => by cases hb)
         refine Vrs hT [] ⟨[(4, kB false)], [], []⟩ ?_
         refine Vc [] [] (rSame_R false) (W_ret ?_)
         exact ⟨.inl rfl, by cases h; rfl⟩
        ·replace h := bif_f h g25
         obtain ⟨g26, g27, g28, g29, g30, h⟩ := gd5 h
         obtain ⟨g31, g32, g33, h⟩ := gd3 h
         refine Vd hT (fT 16 (sameTy_ok n r54_12) fN) 56 [(18, false), (37, false)] [(0, false), (1, false), (5, false), (6, false), (75, false), (84, false), (93, false)] [] [0, 1] ⟨[(0, kH 0), (1, kH 1), (5, kI i5_2), (6, kI i6_8), (95, kB ((((l0.getD i5_2.toNat []).getD i6_8.toNat ([], (0, []))).2.2) != (((l1.getD i5_2.toNat []).getD i6_8.toNat ([], (0, []))).2.2)))], [], [⟨(.dp false), 47, 1, l0.length, .d (.sl 46 (.pr (.wo 92) (.pr .u8 (.by 5)))) l0⟩, ⟨(.dp false), 47, 1, l1.length, .d (.sl 46 (.pr (.wo 92) (.pr .u8 (.by 5)))) l1⟩]⟩ (aP g7 (aP g8 (aP g9 (aP g10 (aP g11 (aP g12 (aP g13 (aP g14 (aP g15 (aP g16 (aP g17 (aP g18 (aP g19 (aP g20 (aP g21 (aP g22 (aP g23 (aP g24 (aP g25 (aP g26 (aP g27 (aP g28 (aP g29 (aP g30 (aP g31 (aP g32 (aP g33 aN))))))))))))))))))))))))))) ?_
         refine Vi (((((l0.getD i5_2.toNat []).getD i6_8.toNat ([], (0, []))).2.2) != (((l1.getD i5_2.toNat []).getD i6_8.toNat ([], (0, []))).2.2))) (fun g35 => ?_) (fun g35 => ?_)
         ·replace h := bif_t h g35
          refine Vrs hT [] ⟨[(4, kB false)], [], []⟩ ?_
          refine Vc [] [] (rSame_R false) (W_ret ?_)
          exact ⟨.inl rfl, by cases h; rfl⟩
         ·replace h := bif_f h g35
          refine W_skip ?_
          obtain ⟨g34, h⟩ := gd_some h
          refine Vg hT fN [] [] [0, 1] (rSame_l2_E l0 l1 i5_2 (i6_8 + 1)) (aP g34 aN) ?_
          exact ⟨_, rfl, h⟩
      ·replace h := bif_f h g37
       refine Vc [] [0, 1] ⟨[(0, kH 0), (1, kH 1), (5, kI i5_2)], [], [⟨(.dp false), 47, 1, l0.length, .d (.sl 46 (.pr (.wo 92) (.pr .u8 (.by 5)))) l0⟩, ⟨(.dp false), 47, 1, l1.length, .d (.sl 46 (.pr (.wo 92) (.pr .u8 (.by 5)))) l1⟩]⟩ (W_exit ?_)
       obtain ⟨g36, h⟩ := gd_some h
       refine Vg hT fN [] [] [0, 1] (rSame_l1_E l0 l1 (i5_2 + 1)) (aP g36 aN) ?_
       exact ⟨_, rfl, h⟩
   ·replace h := bif_f h g39
    refine Vc [] [] ⟨[], [], []⟩ (W_exit ?_)
    refine Vrs hT [] ⟨[(4, kB true)], [], []⟩ ?_
    refine Vc [] [] (rSame_R true) (W_ret ?_)
    exact ⟨.inl rfl, by cases h; rfl⟩
end Go.Proofs.Ytobfglafchoipaa
end
section
namespace Go.Sx
open Go Go.RowKit Go.Ch Go.Proofs.Ytobfglafchoipaa
theorem u8lt (x : UInt8) : x.toNat < 256 := x.toNat_lt
theorem bor8 {i : Int} {x : Nat} (hx : x < 256) (h1 : -9223372036854775808 ≤ i * 256) (h2 : i * 256 + x < 9223372036854775808) : bitI .or .i64 (i * 2 ^ 8) (x : Int) = i * 256 + x := by
 have e : (i * 2 ^ 8 : Int) = i * 256 := by rfl
 rw [e]
 unfold bitI
 show IntKind.i64.wrap (((BitVec.ofInt 64 (i * 256) ||| BitVec.ofInt 64 (x : Int)).toNat : Nat) : Int) = _
 have hX : (BitVec.ofInt 64 (x : Int)).toNat = x := by rw [BitVec.toNat_ofInt]; omega
 have hI : (BitVec.ofInt 64 (i * 256)).toNat = (i % 2 ^ 56).toNat * 256 := by rw [BitVec.toNat_ofInt]; omega
 have ho : (BitVec.ofInt 64 (i * 256) ||| BitVec.ofInt 64 (x : Int)).toNat = (i % 2 ^ 56).toNat * 256 + x := by
  rw [BitVec.toNat_or, hX, hI]
  have := Nat.shiftLeft_add_eq_or_of_lt (i := 8) (show x < 2 ^ 8 from hx) (i % 2 ^ 56).toNat
  rw [Nat.shiftLeft_eq] at this
  exact this.symm
 rw [ho]
 unfold IntKind.wrap
 simp [IntKind.bits, IntKind.signed]
 omega
def pRd : List UInt8 → List UInt32 → Nat → Bool → Option (List UInt32)
 | [], acc, _, bg => if bg then none else some acc
 | x :: t, acc, n, bg => if (bg = false ∧ x = 128) ∨ 16 < acc.length then none
 else if 4294967296 ≤ n * 128 + x.toNat % 128 then none
 else if x < 128 then pRd t (acc ++ [UInt32.ofNat (n * 128 + x.toNat % 128)]) 0 false else pRd t acc (n * 128 + x.toNat % 128) true
def rRd : List UInt8 → List UInt32 → Nat → List UInt32
 | [], acc, _ => acc
 | x :: t, acc, n => if x < 128 then rRd t (acc ++ [UInt32.ofNat ((n * 128 + x.toNat % 128) % 4294967296)]) 0 else rRd t acc ((n * 128 + x.toNat % 128) % 4294967296)
theorem b_hi {d : Nat} (h : d < 128) : ¬ (UInt8.ofNat (d + 128) < 128) ∧ (UInt8.ofNat (d + 128)).toNat % 128 = d ∧ (UInt8.ofNat (d + 128) = 128 ↔ d = 0) := by
 have e : (UInt8.ofNat (d + 128)).toNat = d + 128 := by simp; omega
 refine ⟨by rw [UInt8.lt_iff_toNat_lt, e]; show ¬ d + 128 < 128; omega, by rw [e]; omega, ?_⟩
 rw [← UInt8.toNat_inj, e]; show d + 128 = 128 ↔ _; omega
theorem b_lo {d : Nat} (h : d < 128) : UInt8.ofNat d < 128 ∧ (UInt8.ofNat d).toNat % 128 = d ∧ UInt8.ofNat d ≠ 128 := by
 have e : (UInt8.ofNat d).toNat = d := by simp; omega
 refine ⟨by rw [UInt8.lt_iff_toNat_lt, e]; exact h, by rw [e]; omega, fun h2 => ?_⟩
 rw [← UInt8.toNat_inj, e] at h2; revert h2; show ¬ d = 128; omega
theorem cnt_div {m : Nat} (h0 : 0 < m) (h : m < 4294967296) : cnt 5 m = cnt 5 (m / 128) ++ [UInt8.ofNat (m % 128 + 128)] := by
 have := cnt_up 4 (m / 128) (by omega)
 rw [this]
 conv => lhs; rw [cnt, if_neg (by omega)]
theorem pRd_cnt : ∀ (k m : Nat) (t : List UInt8) (acc : List UInt32), m < k → 0 < m → m < 4294967296 → acc.length ≤ 16 → pRd (cnt 5 m ++ t) acc 0 false = pRd t acc m true
 | 0, _, _, _, h, _, _, _ => by omega
 | k + 1, m, t, acc, hk, h0, hm, ha => by
  obtain ⟨a1, a2, a3⟩ := b_hi (show m % 128 < 128 from Nat.mod_lt _ (by decide))
  rw [cnt_div h0 hm]
  by_cases h : m / 128 = 0
  ·rw [h, cnt_0, List.nil_append, List.singleton_append, pRd, if_neg (by rw [a3]; rintro (⟨_, h2⟩ | h2) <;> omega), a2, if_neg (by omega), if_neg a1]
   congr 1; omega
  ·rw [List.append_assoc, pRd_cnt k (m / 128) _ acc (by omega) (by omega) (by omega) ha, List.singleton_append, pRd, if_neg (by rintro (⟨h2, _⟩ | h2) <;> first | cases h2 | omega), a2, if_neg (by omega), if_neg a1]
   congr 1; omega
theorem pRd_grp (x : UInt32) (t : List UInt8) (acc : List UInt32) (ha : acc.length ≤ 16) : pRd (grp x ++ t) acc 0 false = pRd t (acc ++ [x]) 0 false := by
 have hx : x.toNat < 4294967296 := x.toNat_lt
 obtain ⟨a1, a2, a3⟩ := b_lo (show x.toNat % 128 < 128 from Nat.mod_lt _ (by decide))
 rw [grp_is]; unfold gN
 by_cases h : x.toNat / 128 = 0
 ·rw [h, cnt_0, List.nil_append, List.singleton_append, pRd, if_neg (by rintro (⟨_, h2⟩ | h2); exact a3 h2; omega), a2, if_neg (by omega), if_pos a1]
  congr 3
  rw [show 0 * 128 + x.toNat % 128 = x.toNat by omega, UInt32.ofNat_toNat]
 ·rw [List.append_assoc, pRd_cnt (x.toNat / 128 + 1) _ _ acc (by omega) (by omega) (by omega) ha, List.singleton_append, pRd, if_neg (by rintro (⟨h2, _⟩ | h2) <;> first | cases h2 | omega), a2, if_neg (by omega), if_pos a1]
  congr 3
  rw [show x.toNat / 128 * 128 + x.toNat % 128 = x.toNat by omega, UInt32.ofNat_toNat]
theorem pRd_grps : ∀ (ws acc : List UInt32), acc.length + ws.length ≤ 17 → pRd (grps ws) acc 0 false = some (acc ++ ws)
 | [], acc, _ => by simp [grps, pRd]
 | x :: ws, acc, h => by
  rw [List.length_cons] at h
  rw [grps_cons, pRd_grp x _ acc (by omega), pRd_grps ws _ (by simp; omega)]; simp
theorem rRd_cnt : ∀ (k m : Nat) (t : List UInt8) (acc : List UInt32), m < k → m < 4294967296 → rRd (cnt 5 m ++ t) acc 0 = rRd t acc m
 | 0, _, _, _, h, _ => by omega
 | k + 1, m, t, acc, hk, hm => by
  by_cases h0 : m = 0
  ·rw [h0, cnt_0]; rfl
  obtain ⟨a1, a2, a3⟩ := b_hi (show m % 128 < 128 from Nat.mod_lt _ (by decide))
  rw [cnt_div (by omega) hm, List.append_assoc, rRd_cnt k (m / 128) _ acc (by omega) (by omega), List.singleton_append, rRd, if_neg a1, a2]
  congr 1; omega
theorem rRd_grp (x : UInt32) (t : List UInt8) (acc : List UInt32) : rRd (grp x ++ t) acc 0 = rRd t (acc ++ [x]) 0 := by
 have hx : x.toNat < 4294967296 := x.toNat_lt
 obtain ⟨a1, a2, a3⟩ := b_lo (show x.toNat % 128 < 128 from Nat.mod_lt _ (by decide))
 rw [grp_is]; unfold gN
 rw [List.append_assoc, rRd_cnt (x.toNat / 128 + 1) _ _ acc (by omega) (by omega), List.singleton_append, rRd, if_pos a1, a2]
 congr 3
 rw [show (x.toNat / 128 * 128 + x.toNat % 128) % 4294967296 = x.toNat by omega, UInt32.ofNat_toNat]
theorem rRd_grps : ∀ (ws acc : List UInt32), rRd (grps ws) acc 0 = acc ++ ws
 | [], acc => by simp [grps, rRd]
 | x :: ws, acc => by rw [grps_cons, rRd_grp, rRd_grps ws]; simp
theorem byte_hi {x : UInt8} (h : ¬ x < 128) : x = UInt8.ofNat (x.toNat % 128 + 128) := by
 rw [UInt8.lt_iff_toNat_lt] at h
 have h2 : 128 ≤ x.toNat := Nat.le_of_not_lt h
 have := x.toNat_lt
 apply UInt8.toNat_inj.1; simp; omega
theorem byte_lo {x : UInt8} (h : x < 128) : x = UInt8.ofNat (x.toNat % 128) := by
 rw [UInt8.lt_iff_toNat_lt] at h
 have h2 : x.toNat < 128 := h
 apply UInt8.toNat_inj.1; simp; omega
theorem pRd_some : ∀ (t : List UInt8) (acc w : List UInt32) (n : Nat) (bg : Bool), (bg = false → n = 0) → (bg = true → 0 < n) → n < 4294967296 → pRd t acc n bg = some w → ∃ ws, w = acc ++ ws ∧ cnt 5 n ++ t = grps ws
 | [], acc, w, n, bg, h0, h1, hn, h => by
  rw [pRd] at h
  cases bg with
  | true => cases h
  | false =>
   obtain rfl := h0 rfl
   injection h with h
   exact ⟨[], by simp [h], rfl⟩
 | x :: t, acc, w, n, bg, h0, h1, hn, h => by
  rw [pRd] at h
  split at h
  ·cases h
  ·rename_i hc
   split at h
   ·cases h
   ·rename_i hlt
    have hm : x.toNat % 128 < 128 := Nat.mod_lt _ (by decide)
    split at h
    ·rename_i hx
     obtain ⟨ws, rfl, hw⟩ := pRd_some t _ w 0 false (fun _ => rfl) (fun e => by cases e) (by decide) h
     refine ⟨UInt32.ofNat (n * 128 + x.toNat % 128) :: ws, by simp, ?_⟩
     have e : (UInt32.ofNat (n * 128 + x.toNat % 128)).toNat = n * 128 + x.toNat % 128 := by simp; omega
     rw [cnt_0, List.nil_append] at hw
     rw [grps_cons, grp_is, e, gN_step hm, ← byte_lo hx, ← hw]; simp
    ·rename_i hx
     have hpos : 0 < n * 128 + x.toNat % 128 := by
      cases bg with
      | true => have := h1 rfl; omega
      | false =>
       have hne : x ≠ 128 := fun e => hc (.inl ⟨rfl, e⟩)
       rw [byte_hi hx] at hne
       have : ¬ x.toNat % 128 = 0 := fun e => hne ((b_hi hm).2.2.2 e)
       omega
     obtain ⟨ws, rfl, hw⟩ := pRd_some t _ w _ true (fun e => by cases e) (fun _ => hpos) (by omega) h
     refine ⟨ws, rfl, ?_⟩
     rw [← hw]
     have : cnt 5 (n * 128 + x.toNat % 128) = cnt 5 n ++ [x] := by
      rcases Nat.eq_zero_or_pos n with hz | hz
      ·subst hz
       rw [cnt_0, Nat.zero_mul, Nat.zero_add, cnt_small (by omega) hm, ← byte_hi hx]; rfl
      ·rw [cnt_step hz hm (by omega), ← byte_hi hx]
     rw [this]; simp
def lOf (w : List UInt32) : List UInt32 := [if 2 < w.getD 0 0 / 40 then 2 else w.getD 0 0 / 40, w.getD 0 0 - 40 * (if 2 < w.getD 0 0 / 40 then 2 else w.getD 0 0 / 40)] ++ w.drop 1
theorem u32_back (a b : UInt32) : a + (b - a) = b := by
 apply UInt32.toNat_inj.1
 have ha := a.toNat_lt; have hb := b.toNat_lt
 rw [UInt32.toNat_add, UInt32.toNat_sub]
 omega
theorem bodyOf_lOf {w : List UInt32} (h : w ≠ []) : bodyOf (lOf w) = grps w := by
 cases w with
 | nil => exact absurd rfl h
 | cons x t =>
  unfold bodyOf lOf
  exact congrArg (fun y => grp y ++ grps t) (u32_back _ x)
def pFin (w : List UInt32) : List UInt32 × Option Int := if w ≠ [] ∧ oidOk (lOf w) = true then (lOf w, none) else ([], some 2)
def rFin (a : List UInt8) (w : List UInt32) : List UInt32 × Bool := if w ≠ [] ∧ oidOk (lOf w) = true ∧ bodyOf (lOf w) = a then (lOf w, true) else ([], false)
def pAll (a : List UInt8) : List UInt32 × Option Int := match pRd a [] 0 false with | none => ([], some 2) | some w => pFin w
def rAll (a : List UInt8) : List UInt32 × Bool := if 100 < a.length then ([], false) else rFin a (rRd a [] 0)
theorem lOf_len {w : List UInt32} (h : w ≠ []) : (lOf w).length = w.length + 1 := by
 cases w with
 | nil => exact absurd rfl h
 | cons x t => simp [lOf]
theorem grps_len5 : ∀ l : List UInt32, (grps l).length ≤ 5 * l.length
 | [] => Nat.le_refl _
 | x :: l => by
  rw [grps_cons, List.length_append, List.length_cons]
  have := grps_len5 l
  have hx : x.toNat < 4294967296 := x.toNat_lt
  have : (grp x).length ≤ 5 := by
   rw [grp_is]; unfold gN; rw [cnt_up 4 _ (by omega)]
   have := cnt_len 4 (x.toNat / 128); simp; omega
  omega
theorem all_eq (a : List UInt8) : (∃ l, oidOk l = true ∧ bodyOf l = a ∧ pAll a = (l, none) ∧ rAll a = (l, true)) ∨ (pAll a = ([], some 2) ∧ rAll a = ([], false)) := by
 cases h : pRd a [] 0 false with
 | some w =>
  obtain ⟨ws, e, hw⟩ := pRd_some a [] w 0 false (fun _ => rfl) (fun e => by cases e) (by decide) h
  rw [List.nil_append] at e; subst e
  rw [cnt_0, List.nil_append] at hw
  by_cases hc : w ≠ [] ∧ oidOk (lOf w) = true
  ·refine .inl ⟨lOf w, hc.2, by rw [bodyOf_lOf hc.1, hw], ?_, ?_⟩
   ·unfold pAll; rw [h]; exact if_pos hc
   ·unfold rAll
    have h1 := (oidOk_len hc.2).2
    rw [lOf_len hc.1] at h1
    have h2 := grps_len5 w
    rw [if_neg (by rw [hw]; omega)]
    have e : rRd a [] 0 = w := by rw [hw, rRd_grps]; rfl
    rw [e]; exact if_pos ⟨hc.1, hc.2, by rw [bodyOf_lOf hc.1, hw]⟩
  ·refine .inr ⟨?_, ?_⟩
   ·unfold pAll; rw [h]; exact if_neg hc
   ·unfold rAll
    split
    ·rfl
    ·have e : rRd a [] 0 = w := by rw [hw, rRd_grps]; rfl
     rw [e]; exact if_neg fun hh => hc ⟨hh.1, hh.2.1⟩
 | none =>
  refine .inr ⟨by unfold pAll; rw [h], ?_⟩
  unfold rAll
  split
  ·rfl
  ·refine if_neg fun ⟨h1, h2, h3⟩ => ?_
   rw [bodyOf_lOf h1] at h3
   have h4 := (oidOk_len h2).2
   rw [lOf_len h1] at h4
   generalize rRd a [] 0 = w at *
   rw [← h3, pRd_grps w [] (by simp; omega)] at h
   cases h
theorem shl7_or (y : UInt64) (x : UInt8) (h : y.toNat < 4294967296) : (shl64 y 7 ||| (x &&& 127).toUInt64).toNat = y.toNat * 128 + x.toNat % 128 := by
 have e1 : (shl64 y 7).toNat = y.toNat * 128 := by
  unfold shl64
  rw [if_pos (by decide), UInt64.toNat_shiftLeft, show (UInt64.ofNat (7 : Int).toNat).toNat % 64 = 7 from rfl, Nat.shiftLeft_eq]
  omega
 have e2 : (x &&& 127).toUInt64.toNat = x.toNat % 128 := by
  rw [UInt8.toNat_toUInt64, UInt8.toNat_and, show (127 : UInt8).toNat = 2 ^ 7 - 1 from rfl, Nat.and_two_pow_sub_one_eq_mod]
 rw [UInt64.toNat_or, e1, e2, show y.toNat * 128 = y.toNat <<< 7 by rw [Nat.shiftLeft_eq], ← Nat.shiftLeft_add_eq_or_of_lt (Nat.mod_lt _ (by decide)), Nat.shiftLeft_eq]
def pEnd (o : Option (List UInt32)) : List UInt32 × Option Int := match o with | none => ([], some 2) | some w => pFin w
theorem flat2 (w : List UInt32) (f g : UInt32) : ([[f, g], ((w.drop 1).take (w.length - 1))] : List (List UInt32)).flatten = [f, g] ++ w.drop 1 := by
 rw [List.take_of_length_le (by simp)]; simp
theorem pReadOid_l1_is (n : Nat) {a : List UInt8} (ha : a.length ≤ 100000) : ∀ (m i fu : Nat) (w : List UInt32) (y : UInt64) (bg : Bool), i + m = a.length → m < fu → w.length ≤ 17 → y.toNat < 4294967296 →
  pReadOid_l1 n a fu w y bg (i : Int) = some (pEnd (pRd (a.drop i) w y.toNat bg)) := by
 intro m
 induction m with
 | zero =>
  intro i fu w y bg hi hf hw hy
  cases fu with
  | zero => omega
  | succ fu =>
   rw [pReadOid_l1, ite_f (decide_eq_false (by omega)), List.drop_eq_nil_of_le (show a.length ≤ i by omega), pRd]
   cases bg with
   | true => rfl
   | false =>
    rw [ite_f (by rfl)]
    by_cases h0 : w = []
    ·subst h0; rfl
    ·have hpos : 0 < w.length := List.length_pos_iff.2 h0
     rw [ite_f (by simp; omega), gd_pos (by omega), gd_pos (by omega), gd_pos (by decide), gd_pos (by omega), gd_pos (by omega), gd_pos (by omega), gd_pos (by omega), flat2]
     have hl : (lOf w).length ≤ 18 := by rw [lOf_len h0]; omega
     rw [gd_pos (by simp), gd_pos (by have := hl; unfold lOf at this; omega)]
     change ((pident n (lOf w)).bind fun r => bif !r then some ([], some 2) else some (lOf w, none)) = _
     rw [pident_is, Option.bind_some, if_neg (by simp)]
     show _ = some (pFin w)
     unfold pFin
     cases h : oidOk (lOf w) with
     | true => rw [if_pos ⟨h0, rfl⟩]; rfl
     | false => rw [if_neg (by simp)]; rfl
 | succ m ih =>
  intro i fu w y bg hi hf hw hy
  cases fu with
  | zero => omega
  | succ fu =>
   have hd := drop_at (l := a) (z := 0) (show i < a.length by omega)
   have hy7 := shl7_or y (a.getD i 0) hy
   have hlast : ∀ hw16 : w.length ≤ 16, (gd (0 ≤ (7 : Int)) <|
     bif (decide ((4294967296 : UInt64) ≤ ((shl64 y 7) ||| (((a.getD i 0) &&& (127 : UInt8)).toUInt64)))) then some ([], (some 2))
     else bif (decide ((a.getD i 0) < (128 : UInt8))) then
       gd (rmB (w.length + 1) 4) <| pReadOid_j1 n a (i : Int) (pReadOid_l1 n a fu) (w ++ [((shl64 y 7) ||| (((a.getD i 0) &&& (127 : UInt8)).toUInt64)).toUInt32]) 0 false
      else pReadOid_j1 n a (i : Int) (pReadOid_l1 n a fu) w ((shl64 y 7) ||| (((a.getD i 0) &&& (127 : UInt8)).toUInt64)) true) =
     some (pEnd (if 4294967296 ≤ y.toNat * 128 + (a.getD i 0).toNat % 128 then none
      else if a.getD i 0 < 128 then pRd (a.drop (i + 1)) (w ++ [UInt32.ofNat (y.toNat * 128 + (a.getD i 0).toNat % 128)]) 0 false else pRd (a.drop (i + 1)) w (y.toNat * 128 + (a.getD i 0).toNat % 128) true)) := by
    intro hw16
    rw [gd_pos (by decide)]
    by_cases hbig : 4294967296 ≤ y.toNat * 128 + (a.getD i 0).toNat % 128
    ·rw [if_pos hbig, ite_t (decide_eq_true (by rw [UInt64.le_iff_toNat_le, hy7]; exact hbig))]; rfl
    ·rw [if_neg hbig, ite_f (decide_eq_false (by rw [UInt64.le_iff_toNat_le, hy7]; exact hbig))]
     by_cases hlo : a.getD i 0 < 128
     ·have e32 : ((shl64 y 7) ||| (((a.getD i 0) &&& (127 : UInt8)).toUInt64)).toUInt32 = UInt32.ofNat (y.toNat * 128 + (a.getD i 0).toNat % 128) := by
       apply UInt32.toNat_inj.1
       rw [UInt64.toNat_toUInt32, hy7]; simp
      rw [if_pos hlo, ite_t (decide_eq_true hlo), gd_pos (by unfold rmB; omega)]
      unfold pReadOid_j1
      rw [gd_pos (okI64 (by omega) (by omega)), e32]
      exact ih (i + 1) fu _ 0 false (by omega) (by omega) (by simp; omega) (by decide)
     ·rw [if_neg hlo, ite_f (decide_eq_false hlo)]
      unfold pReadOid_j1
      rw [gd_pos (okI64 (by omega) (by omega))]
      have := ih (i + 1) fu w ((shl64 y 7) ||| (((a.getD i 0) &&& (127 : UInt8)).toUInt64)) true (by omega) (by omega) hw (by rw [hy7]; omega)
      rw [hy7] at this
      exact this
   rw [pReadOid_l1, ite_t (decide_eq_true (by omega)), gd_pos (by omega), gd_pos (by omega), hd, pRd, Int.toNat_natCast]
   cases bg with
   | true =>
    rw [ite_f (by rfl)]
    by_cases h16 : 16 < w.length
    ·rw [ite_t (decide_eq_true (by omega)), if_pos (.inr h16)]; rfl
    ·rw [ite_f (decide_eq_false (by omega)), if_neg (by rintro (⟨h, _⟩ | h); cases h; exact h16 h)]
     exact hlast (by omega)
   | false =>
    rw [ite_t (by rfl)]
    by_cases h128 : a.getD i 0 = 128
    ·rw [ite_t (by rw [h128]; rfl), if_pos (.inl ⟨rfl, h128⟩)]; rfl
    ·rw [ite_f (beq_eq_false_iff_ne.2 h128)]
     by_cases h16 : 16 < w.length
     ·rw [ite_t (decide_eq_true (by omega)), if_pos (.inr h16)]; rfl
     ·rw [ite_f (decide_eq_false (by omega)), if_neg (by rintro (⟨_, h⟩ | h); exact h128 h; exact h16 h)]
      exact hlast (by omega)
theorem pReadOid_is {n : Nat} {a : List UInt8} (ha : a.length ≤ 100000) (hn : a.length < n) : pReadOid n a = some (pAll a) := by
 unfold pReadOid
 have := pReadOid_l1_is n ha a.length 0 n [] 0 false (by omega) (by omega) (by simp) (by decide)
 rw [List.drop_zero] at this
 exact this
theorem lOf_self {l : List UInt32} (h : oidOk l = true) : lOf ((40 * l.getD 0 0 + l.getD 1 0) :: l.drop 2) = l := by
 obtain ⟨h2, h16⟩ := oidOk_len h
 obtain ⟨x, y, t, rfl⟩ : ∃ x y t, l = x :: y :: t := by
  match l, h2 with
  | x :: y :: t, _ => exact ⟨x, y, t, rfl⟩
 unfold oidOk at h
 simp only [Bool.and_eq_true, Bool.or_eq_true, decide_eq_true_eq, beq_iff_eq] at h
 have h3 := h.2
 have hf : (if 2 < (40 * x + y) / 40 then 2 else (40 * x + y) / 40) = x ∧ 40 * x + y - 40 * x = y := by
  refine ⟨?_, ?_⟩
  ·rcases h3 with ⟨ha, hb⟩ | ⟨ha, hb⟩
   ·have ha' : x.toNat < 2 := ha
    have hb' : y.toNat < 40 := hb
    have e : ((40 * x + y) / 40).toNat = x.toNat := by
     rw [UInt32.toNat_div, UInt32.toNat_add, UInt32.toNat_mul]
     show (40 * x.toNat % 4294967296 + y.toNat) % 4294967296 / 40 = _
     rw [Nat.mod_eq_of_lt (show 40 * x.toNat < 4294967296 by omega), Nat.mod_eq_of_lt (show 40 * x.toNat + y.toNat < 4294967296 by omega)]
     omega
    have e2 : (40 * x + y) / 40 = x := UInt32.toNat_inj.1 e
    rw [e2, if_neg (by rw [UInt32.lt_iff_toNat_lt]; show ¬ 2 < x.toNat; omega)]
   ·have ha' : x = 2 := ha
    have hb' : y.toNat ≤ 4294967215 := hb
    subst ha'
    have e : ((40 * (2 : UInt32) + y) / 40).toNat = (80 + y.toNat) / 40 := by
     rw [UInt32.toNat_div, UInt32.toNat_add, UInt32.toNat_mul]
     show (40 * 2 % 4294967296 + y.toNat) % 4294967296 / 40 = _
     omega
    split
    ·rfl
    ·rename_i hn
     rw [UInt32.lt_iff_toNat_lt, e] at hn
     apply UInt32.toNat_inj.1
     rw [e]
     have : ¬ 2 < (80 + y.toNat) / 40 := hn
     show _ = 2
     omega
  ·apply UInt32.toNat_inj.1
   have hx := (40 * x).toNat_lt; have hy := y.toNat_lt
   rw [UInt32.toNat_sub, UInt32.toNat_add]
   omega
 show [if 2 < (40 * x + y) / 40 then 2 else (40 * x + y) / 40, 40 * x + y - 40 * (if 2 < (40 * x + y) / 40 then 2 else (40 * x + y) / 40)] ++ t = x :: y :: t
 rw [hf.1, hf.2]; rfl
def mkV (m : UInt8) : Bool := m % 32 != 31
def whV (m : UInt8) : Bool := (m &&& 32) != 0
theorem tisW_is (n : Nat) (m : UInt8) : tisW n m = some (whV m) := rfl
theorem tvalid_v (n : Nat) (m : UInt8) : tvalid n m = some (mkV m) := tvalid_is n m
def bN (b : List UInt8) (i : Nat) : Nat := (b.getD i 0).toNat
theorem bN_lt (b : List UInt8) (i : Nat) : bN b i < 256 := u8lt _
def hJ (b : List UInt8) (i v : Nat) : Int × Int × Bool := ((i : Int), (v : Int), decide (i + v ≤ b.length))
def hR (b : List UInt8) : Int × Int × Bool :=
 if b.length < 2 ∨ mkV (b.getD 0 0) = false then (0, 0, false)
 else if bN b 1 < 128 then hJ b 2 (bN b 1)
 else if bN b 1 = 129 then (if b.length < 3 ∨ bN b 2 < 128 then (0, 0, false) else hJ b 3 (bN b 2))
 else if bN b 1 = 130 then (if b.length < 4 ∨ bN b 2 * 256 + bN b 3 < 256 then (0, 0, false) else hJ b 4 (bN b 2 * 256 + bN b 3))
 else (0, 0, false)
theorem j1_hJ (n : Nat) {b : List UInt8} (hb : b.length ≤ 1000000) {i : Nat} (hi : i ≤ b.length) (v : Nat) : thead_j1 n b (i : Int) (v : Int) = some (hJ b i v) := by
 unfold thead_j1 hJ
 rw [gd_pos (okI64 (by omega) (by omega))]
 have e : decide ((v : Int) ≤ ((b.length : Nat) : Int) - (i : Int)) = decide (i + v ≤ b.length) := decide_eq_decide.2 (by omega)
 rw [e]
theorem getD_dt (b : List UInt8) (k j : Nat) (h : j < k) : ((b.drop 2).take k).getD j 0 = b.getD (2 + j) 0 := by
 rw [List.getD_eq_getElem?_getD, List.getElem?_take, if_pos h, List.getElem?_drop, ← List.getD_eq_getElem?_getD]
theorem l1_one (n : Nat) {b : List UInt8} (hb : b.length ≤ 1000000) (h1 : bN b 1 = 129) (h3 : 3 ≤ b.length) (fu : Nat) : thead_l1 n b (fu + 2) 0 0 = some (if bN b 2 < 128 then (0, 0, false) else hJ b 3 (bN b 2)) := by
 have e1 : ((((b.getD 1 0).toNat : Nat) : Int) - 128) = 1 := by have : (b.getD 1 0).toNat = 129 := h1; omega
 have hx := bN_lt b 2
 rw [thead_l1]
 simp only [e1]
 rw [ite_t (by decide), gd_pos (by decide), gd_pos (by decide), gd_pos (by decide), gd_pos (by decide), gd_pos (okI64 (by decide) (by decide)), gd_pos (okI64 (by decide) (by decide))]
 have e2 : (((b.drop 2).take ((2 + (1 : Int)).toNat - 2)).getD (0 : Int).toNat 0) = b.getD 2 0 := getD_dt b 1 0 (by decide)
 rw [e2, bor8 (u8lt _) (by decide) (by have := u8lt (b.getD 2 0); omega), thead_l1]
 simp only [e1]
 rw [ite_f (by decide), show (0 : Int) * 256 + (((b.getD 2 0).toNat : Nat) : Int) = ((bN b 2 : Nat) : Int) by unfold bN; omega]
 by_cases hv : bN b 2 < 128
 ·rw [ite_t (decide_eq_true (by omega)), if_pos hv]
 ·rw [ite_f (decide_eq_false (by omega)), if_neg hv, ite_f (by decide)]
  exact j1_hJ n hb h3 _
theorem l1_two (n : Nat) {b : List UInt8} (hb : b.length ≤ 1000000) (h1 : bN b 1 = 130) (h4 : 4 ≤ b.length) (fu : Nat) : thead_l1 n b (fu + 3) 0 0 = some (if bN b 2 * 256 + bN b 3 < 256 then (0, 0, false) else hJ b 4 (bN b 2 * 256 + bN b 3)) := by
 have e1 : ((((b.getD 1 0).toNat : Nat) : Int) - 128) = 2 := by have : (b.getD 1 0).toNat = 130 := h1; omega
 have hx := bN_lt b 2
 have hy := bN_lt b 3
 rw [thead_l1]
 simp only [e1]
 rw [ite_t (by decide), gd_pos (by decide), gd_pos (by decide), gd_pos (by decide), gd_pos (by decide), gd_pos (okI64 (by decide) (by decide)), gd_pos (okI64 (by decide) (by decide))]
 have e2 : (((b.drop 2).take ((2 + (2 : Int)).toNat - 2)).getD (0 : Int).toNat 0) = b.getD 2 0 := getD_dt b 2 0 (by decide)
 have e3 : (((b.drop 2).take ((2 + (2 : Int)).toNat - 2)).getD (0 + 1 : Int).toNat 0) = b.getD 3 0 := getD_dt b 2 1 (by decide)
 rw [e2, bor8 (u8lt _) (by decide) (by have := u8lt (b.getD 2 0); omega), show (0 : Int) * 256 + (((b.getD 2 0).toNat : Nat) : Int) = ((bN b 2 : Nat) : Int) by unfold bN; omega, thead_l1]
 simp only [e1]
 rw [ite_t (by decide), gd_pos (by decide), gd_pos (by decide), gd_pos (by decide), gd_pos (by decide), gd_pos (okI64 (by omega) (by omega)), gd_pos (okI64 (by decide) (by decide)), e3, bor8 (u8lt _) (by omega) (by have := u8lt (b.getD 3 0); omega), thead_l1]
 simp only [e1]
 rw [ite_f (by decide), show ((bN b 2 : Nat) : Int) * 256 + (((b.getD 3 0).toNat : Nat) : Int) = ((bN b 2 * 256 + bN b 3 : Nat) : Int) by unfold bN; omega]
 by_cases hv : bN b 2 * 256 + bN b 3 < 256
 ·rw [if_pos hv]
  by_cases hw : bN b 2 * 256 + bN b 3 < 128
  ·rw [ite_t (decide_eq_true (by omega))]
  ·rw [ite_f (decide_eq_false (by omega)), ite_t (by decide), ite_t (decide_eq_true (by omega))]
 ·rw [if_neg hv, ite_f (decide_eq_false (by omega)), ite_t (by decide), ite_f (decide_eq_false (by omega))]
  exact j1_hJ n hb h4 _
theorem thead_cf {n : Nat} (hn : 3 ≤ n) {b : List UInt8} (hb : b.length ≤ 1000000) : thead n b = some (hR b) := by
 unfold thead hR
 by_cases h2 : b.length < 2
 ·rw [ite_t (decide_eq_true (by omega)), if_pos (.inl h2)]
 ·rw [ite_f (decide_eq_false (by omega)), gd_pos (by omega), gd_pos (by omega), tvalid_v, Option.bind_some]
  cases hm : mkV (b.getD 0 0) with
  | false => rw [if_pos (.inr rfl)]; rfl
  | true =>
   rw [ite_f (by rfl), if_neg (by rintro (h | h); exact h2 h; cases h), gd_pos (by omega), gd_pos (by omega)]
   have hx := bN_lt b 1
   have hxe : (((b.getD 1 0).toNat : Nat) : Int) = ((bN b 1 : Nat) : Int) := rfl
   by_cases h8 : bN b 1 < 128
   ·rw [if_pos h8, ite_f (decide_eq_false (by omega))]
    exact j1_hJ n hb (show 2 ≤ b.length by omega) _
   ·rw [if_neg h8, ite_t (decide_eq_true (by omega)), gd_pos (okI64 (by omega) (by omega))]
    by_cases h128 : bN b 1 = 128
    ·rw [ite_t (decide_eq_true (by omega)), if_neg (by omega), if_neg (by omega)]
    ·rw [ite_f (decide_eq_false (by omega))]
     by_cases h9 : bN b 1 = 129
     ·rw [if_pos h9, ite_f (decide_eq_false (by omega)), gd_pos (okI64 (by omega) (by omega))]
      by_cases h3 : b.length < 3
      ·rw [ite_t (decide_eq_true (by omega)), if_pos (.inl h3)]
      ·rw [ite_f (decide_eq_false (by omega)), gd_pos (okI64 (by omega) (by omega)), gd_pos (by omega), gd_pos (by omega), gd_pos (by omega)]
       obtain ⟨fu, rfl⟩ : ∃ fu, n = fu + 2 := ⟨n - 2, by omega⟩
       rw [l1_one _ hb h9 (by omega)]
       by_cases hv : bN b 2 < 128
       ·rw [if_pos hv, if_pos (.inr hv)]
       ·rw [if_neg hv, if_neg (by rintro (h | h); exact h3 h; exact hv h)]
     ·rw [if_neg h9]
      by_cases h10 : bN b 1 = 130
      ·rw [if_pos h10, ite_f (decide_eq_false (by omega)), gd_pos (okI64 (by omega) (by omega))]
       by_cases h3 : b.length < 4
       ·rw [ite_t (decide_eq_true (by omega)), if_pos (.inl h3)]
       ·rw [ite_f (decide_eq_false (by omega)), gd_pos (okI64 (by omega) (by omega)), gd_pos (by omega), gd_pos (by omega), gd_pos (by omega)]
        obtain ⟨fu, rfl⟩ : ∃ fu, n = fu + 3 := ⟨n - 3, by omega⟩
        rw [l1_two _ hb h10 (by omega)]
        by_cases hv : bN b 2 * 256 + bN b 3 < 256
        ·rw [if_pos hv, if_pos (.inr hv)]
        ·rw [if_neg hv, if_neg (by rintro (h | h); exact h3 h; exact hv h)]
      ·rw [if_neg h10, ite_t (decide_eq_true (by omega))]
def elO (L : List UInt8) : Option (UInt8 × List UInt8 × List UInt8) :=
 if (hR L).2.2 = true then some (L.getD 0 0, (L.drop (hR L).1.toNat).take (hR L).2.1.toNat, L.drop ((hR L).1.toNat + (hR L).2.1.toNat)) else none
theorem ofInt_lt {k : Nat} (h : k < 256) : (UInt8.ofInt (k : Int)).toNat = k := by
 unfold UInt8.ofInt; simp; omega
theorem ofInt_bN (b : List UInt8) (i : Nat) : UInt8.ofInt ((bN b i : Nat) : Int) = b.getD i 0 := by
 apply UInt8.toNat_inj.1; rw [ofInt_lt (bN_lt b i)]; rfl
theorem take2 {b : List UInt8} (h : 2 ≤ b.length) : b.take 2 = [b.getD 0 0, b.getD 1 0] := by
 match b, h with
 | x :: y :: t, _ => rfl
theorem take3 {b : List UInt8} (h : 3 ≤ b.length) : b.take 3 = [b.getD 0 0, b.getD 1 0, b.getD 2 0] := by
 match b, h with
 | x :: y :: z :: t, _ => rfl
theorem take4 {b : List UInt8} (h : 4 ≤ b.length) : b.take 4 = [b.getD 0 0, b.getD 1 0, b.getD 2 0, b.getD 3 0] := by
 match b, h with
 | x :: y :: z :: u :: t, _ => rfl
theorem hR_some {b : List UInt8} (h : (hR b).2.2 = true) : ∃ k : Nat, (hR b).2.1 = (k : Int) ∧ k ≤ 65535 ∧ mkV (b.getD 0 0) = true ∧ (hR b).1 = (((hdF (b.getD 0 0) k).length : Nat) : Int) ∧ b.take (hdF (b.getD 0 0) k).length = hdF (b.getD 0 0) k ∧ (hdF (b.getD 0 0) k).length + k ≤ b.length := by
 unfold hR at h ⊢
 by_cases h1 : b.length < 2 ∨ mkV (b.getD 0 0) = false
 ·rw [if_pos h1] at h; cases h
 ·have hm : mkV (b.getD 0 0) = true := by cases hm : mkV (b.getD 0 0) with | true => rfl | false => exact absurd (.inr hm) h1
  have h2 : 2 ≤ b.length := by by_cases h2 : b.length < 2; exact absurd (.inl h2) h1; omega
  rw [if_neg h1] at h ⊢
  by_cases h8 : bN b 1 < 128
  ·rw [if_pos h8] at h ⊢
   have hle := of_decide_eq_true (show decide (2 + bN b 1 ≤ b.length) = true from h)
   have e : hdF (b.getD 0 0) ((bN b 1 : Nat) : Int) = [b.getD 0 0, b.getD 1 0] := by unfold hdF; rw [ite_t (decide_eq_true (by omega)), ofInt_bN]
   exact ⟨bN b 1, rfl, by omega, hm, by rw [e]; rfl, by rw [e]; exact take2 h2, by rw [e]; exact hle⟩
  ·rw [if_neg h8] at h ⊢
   by_cases h9 : bN b 1 = 129
   ·rw [if_pos h9] at h ⊢
    by_cases h3 : b.length < 3 ∨ bN b 2 < 128
    ·rw [if_pos h3] at h; cases h
    ·rw [if_neg h3] at h ⊢
     have hle := of_decide_eq_true (show decide (3 + bN b 2 ≤ b.length) = true from h)
     have hx := bN_lt b 2
     have h3a : 3 ≤ b.length := by omega
     have h3b : ¬ bN b 2 < 128 := fun h => h3 (.inr h)
     have e1 : b.getD 1 0 = 129 := UInt8.toNat_inj.1 h9
     have e : hdF (b.getD 0 0) ((bN b 2 : Nat) : Int) = [b.getD 0 0, b.getD 1 0, b.getD 2 0] := by unfold hdF; rw [ite_f (decide_eq_false (by omega)), ite_t (decide_eq_true (by omega)), ofInt_bN, e1]
     exact ⟨bN b 2, rfl, by omega, hm, by rw [e]; rfl, by rw [e]; exact take3 h3a, by rw [e]; exact hle⟩
   ·rw [if_neg h9] at h ⊢
    by_cases h10 : bN b 1 = 130
    ·rw [if_pos h10] at h ⊢
     by_cases h3 : b.length < 4 ∨ bN b 2 * 256 + bN b 3 < 256
     ·rw [if_pos h3] at h; cases h
     ·rw [if_neg h3] at h ⊢
      have hle := of_decide_eq_true (show decide (4 + (bN b 2 * 256 + bN b 3) ≤ b.length) = true from h)
      have hx := bN_lt b 2
      have hy := bN_lt b 3
      have h3b : ¬ bN b 2 * 256 + bN b 3 < 256 := fun h => h3 (.inr h)
      have e1 : b.getD 1 0 = 130 := UInt8.toNat_inj.1 h10
      have e2 : UInt8.ofInt (((bN b 2 * 256 + bN b 3 : Nat) : Int) / 256) = b.getD 2 0 := by
       rw [show ((bN b 2 * 256 + bN b 3 : Nat) : Int) / 256 = ((bN b 2 : Nat) : Int) by omega]; exact ofInt_bN b 2
      have e3 : UInt8.ofInt ((bN b 2 * 256 + bN b 3 : Nat) : Int) = b.getD 3 0 := by
       rw [← ofInt_mod, show ((bN b 2 * 256 + bN b 3 : Nat) : Int) % 256 = ((bN b 3 : Nat) : Int) by omega]; exact ofInt_bN b 3
      have e : hdF (b.getD 0 0) ((bN b 2 * 256 + bN b 3 : Nat) : Int) = [b.getD 0 0, b.getD 1 0, b.getD 2 0, b.getD 3 0] := by unfold hdF; rw [ite_f (decide_eq_false (by omega)), ite_f (decide_eq_false (by omega)), e2, e3, e1]
      exact ⟨bN b 2 * 256 + bN b 3, rfl, by omega, hm, by rw [e]; rfl, by rw [e]; exact take4 (by omega), by rw [e]; exact hle⟩
    ·rw [if_neg h10] at h; cases h
theorem hd_no {b : List UInt8} {m : UInt8} (h : 2 ≤ b.length) (h0 : b.getD 0 0 = m) (hm : mkV m = true) : ¬(b.length < 2 ∨ mkV (b.getD 0 0) = false) := by
 rintro (h1 | h1)
 ·omega
 ·rw [h0, hm] at h1; cases h1
theorem hR_hd {m : UInt8} {k : Nat} {t : List UInt8} (hm : mkV m = true) (hk : k ≤ 65535) (ht : k ≤ t.length) : hR (hdF m (k : Int) ++ t) = ((((hdF m (k : Int)).length : Nat) : Int), (k : Int), true) := by
 have key : ∀ i v : Nat, ∀ b : List UInt8, i + v ≤ b.length → hJ b i v = ((i : Int), (v : Int), true) := fun i v b h => by unfold hJ; rw [decide_eq_true h]
 unfold hdF
 by_cases h1 : k < 128
 ·rw [ite_t (decide_eq_true (by omega))]
  have hb : bN ([m, UInt8.ofInt (k : Int)] ++ t) 1 = k := ofInt_lt (by omega)
  unfold hR
  rw [if_neg (hd_no (b := [m, UInt8.ofInt (k : Int)] ++ t) (m := m) (by simp) rfl hm), hb, if_pos h1, key _ _ _ (by simp; omega)]
  rfl
 ·rw [ite_f (decide_eq_false (by omega))]
  by_cases h2 : k < 256
  ·rw [ite_t (decide_eq_true (by omega))]
   have hb : bN ([m, 129, UInt8.ofInt (k : Int)] ++ t) 1 = 129 := rfl
   have hb2 : bN ([m, 129, UInt8.ofInt (k : Int)] ++ t) 2 = k := ofInt_lt h2
   unfold hR
   rw [if_neg (hd_no (b := [m, 129, UInt8.ofInt (k : Int)] ++ t) (m := m) (by simp) rfl hm), hb, if_neg (by decide), if_pos rfl, hb2, if_neg (by simp; omega), key _ _ _ (by simp; omega)]
   rfl
  ·rw [ite_f (decide_eq_false (by omega))]
   have hb : bN ([m, 130, UInt8.ofInt ((k : Int) / 256), UInt8.ofInt (k : Int)] ++ t) 1 = 130 := rfl
   have hb2 : bN ([m, 130, UInt8.ofInt ((k : Int) / 256), UInt8.ofInt (k : Int)] ++ t) 2 = k / 256 := by
    show (UInt8.ofInt ((k : Int) / 256)).toNat = _
    rw [show (k : Int) / 256 = ((k / 256 : Nat) : Int) by omega]; exact ofInt_lt (by omega)
   have hb3 : bN ([m, 130, UInt8.ofInt ((k : Int) / 256), UInt8.ofInt (k : Int)] ++ t) 3 = k % 256 := by
    show (UInt8.ofInt (k : Int)).toNat = _
    rw [← ofInt_mod, show (k : Int) % 256 = ((k % 256 : Nat) : Int) by omega]; exact ofInt_lt (by omega)
   unfold hR
   rw [if_neg (hd_no (b := [m, 130, UInt8.ofInt ((k : Int) / 256), UInt8.ofInt (k : Int)] ++ t) (m := m) (by simp) rfl hm), hb, if_neg (by decide), if_neg (by decide), if_pos rfl, hb2, hb3, show k / 256 * 256 + k % 256 = k by omega, if_neg (by simp; omega), key _ _ _ (by simp; omega)]
   rfl
theorem elO_some {L : List UInt8} {m : UInt8} {body rest : List UInt8} (h : elO L = some (m, body, rest)) : L = elF m body ++ rest ∧ mkV m = true ∧ body.length ≤ 65535 ∧ (hR L).2.2 = true ∧ (hR L).1 = (((hdF m (body.length : Int)).length : Nat) : Int) ∧ (hR L).2.1 = (body.length : Int) ∧ L.getD 0 0 = m := by
 unfold elO at h
 split at h
 ·rename_i hr
  obtain ⟨k, h1, h2, h3, h4, h5, h6⟩ := hR_some hr
  rw [h1, h4] at h
  simp only [Int.toNat_natCast, Option.some.injEq, Prod.mk.injEq] at h
  obtain ⟨rfl, rfl, rfl⟩ := h
  have hl : ((L.drop (hdF (L.getD 0 0) k).length).take k).length = k := by rw [List.length_take, List.length_drop]; omega
  refine ⟨?_, h3, by rw [hl]; exact h2, hr, by rw [hl]; exact h4, by rw [hl]; exact h1, rfl⟩
  unfold elF
  rw [hl]
  have e0 := List.take_append_drop (hdF (L.getD 0 0) (k : Int)).length L
  rw [h5] at e0
  rw [List.append_assoc]
  refine e0.symm.trans (congrArg _ ?_)
  have e := List.take_append_drop k (L.drop (hdF (L.getD 0 0) (k : Int)).length)
  rw [List.drop_drop] at e
  exact e.symm
 ·cases h
theorem elO_el {m : UInt8} {body rest : List UInt8} (hm : mkV m = true) (hb : body.length ≤ 65535) : elO (elF m body ++ rest) = some (m, body, rest) := by
 unfold elF
 rw [List.append_assoc]
 have e := hR_hd (k := body.length) (t := body ++ rest) hm hb (by simp)
 unfold elO
 rw [e]
 rw [if_pos rfl]
 have h0 : (hdF m (body.length : Int) ++ (body ++ rest)).getD 0 0 = m := by
  unfold hdF; cases decide ((body.length : Int) < 128) with
  | true => rfl
  | false => cases decide ((body.length : Int) < 256) <;> rfl
 rw [h0]
 simp only [Int.toNat_natCast]
 rw [← List.drop_drop, List.drop_left, List.take_left, List.drop_left]
theorem elF_two (m : UInt8) (b : List UInt8) : 2 ≤ (elF m b).length := by
 unfold elF hdF
 cases decide ((b.length : Int) < 128) with
 | true => simp
 | false => cases decide ((b.length : Int) < 256) <;> simp
structure At0 (b : List UInt8) (at_ e : Nat) (L : List UInt8) : Prop where
 rest : ∃ T, b.drop at_ = L ++ T
 fin : e = at_ + L.length
 le : e ≤ b.length
theorem At0.left {b : List UInt8} {at_ e : Nat} {L : List UInt8} (h : At0 b at_ e L) : (b.drop at_).take (e - at_) = L := by
 obtain ⟨T, hT⟩ := h.rest
 rw [hT, h.fin, Nat.add_sub_cancel_left, List.take_left]
theorem At0.step {b : List UInt8} {at_ e : Nat} {X Y : List UInt8} (h : At0 b at_ e (X ++ Y)) : At0 b (at_ + X.length) e Y := by
 obtain ⟨T, hT⟩ := h.rest
 refine ⟨⟨T, ?_⟩, by have := h.fin; rw [List.length_append] at this; omega, h.le⟩
 rw [← List.drop_drop, hT, List.append_assoc, List.drop_left]
theorem At0.into {b : List UInt8} {at_ e : Nat} {X Y : List UInt8} (h : At0 b at_ e (X ++ Y)) : At0 b at_ (at_ + X.length) X := by
 obtain ⟨T, hT⟩ := h.rest
 exact ⟨⟨Y ++ T, by rw [hT, List.append_assoc]⟩, rfl, by have := h.fin; have := h.le; rw [List.length_append] at *; omega⟩
theorem ends_last (es : List Int) (e : Nat) : (es ++ [(e : Int)]).getD (((((es ++ [(e : Int)]).length : Nat) : Int) - 1).toNat) 0 = (e : Int) := by
 have : ((((es ++ [(e : Int)]).length : Nat) : Int) - 1).toNat = es.length := by simp
 rw [this, List.getD_eq_getElem?_getD, List.getElem?_append_right (Nat.le_refl _), Nat.sub_self]; rfl
theorem tleft_at (n : Nat) {b : List UInt8} {at_ e : Nat} {L : List UInt8} (h : At0 b at_ e L) (es : List Int) (hes : es.length ≤ 1000) (hb : b.length ≤ 1000000) : tleft n b (at_ : Int) (es ++ [(e : Int)]) = some (at_, e - at_) := by
 have h1 := h.fin; have h2 := h.le
 unfold tleft
 rw [ends_last]
 have hl : (es ++ [(e : Int)]).length = es.length + 1 := by simp
 rw [gd_pos (okI64 (by omega) (by omega)), gd_pos (by omega), gd_pos (by omega), gd_pos (by omega), gd_pos (by omega), gd_pos (by omega)]
 rfl
theorem At0.nil {b : List UInt8} {at_ e : Nat} {L : List UInt8} (h : At0 b at_ e L) : (((e - at_ : Nat) : Int) == 0) = L.isEmpty := by
 have := h.fin
 cases L with
 | nil => simp at this; subst this; simp
 | cons x t => simp at this; simp; omega
theorem At0.hd {b : List UInt8} {at_ e : Nat} {L : List UInt8} (h : At0 b at_ e L) (hn : L ≠ []) : b.getD (oddA at_ 0) 0 = L.getD 0 0 := by
 obtain ⟨T, hT⟩ := h.rest
 have e0 : oddA at_ 0 = at_ := by cases at_ <;> rfl
 rw [e0]
 have : b.getD at_ 0 = (b.drop at_).getD 0 0 := by rw [getD_drop]; rfl
 rw [this, hT]
 cases L with
 | nil => exact absurd rfl hn
 | cons x t => rfl
theorem tNext_at (n : Nat) {b : List UInt8} {at_ e : Nat} {L : List UInt8} (h : At0 b at_ e L) (es : List Int) (hes : es.length ≤ 1000) (hb : b.length ≤ 1000000) : tNext n b (at_ : Int) (es ++ [(e : Int)]) = some (if L = [] then (0, false) else (L.getD 0 0, true)) := by
 unfold tNext
 rw [tleft_at n h es hes hb, Option.bind_some]
 simp only []
 rw [h.nil]
 cases L with
 | nil => rfl
 | cons x t =>
  have h1 := h.fin
  simp only [List.length_cons] at h1
  rw [show (x :: t).isEmpty = false from rfl, cond_false, gd_pos (by omega), gd_pos (by omega), h.hd (List.cons_ne_nil _ _), if_neg (List.cons_ne_nil _ _)]
theorem elO_nil : elO [] = none := rfl
theorem tTake_at {n : Nat} (hn : 3 ≤ n) {b : List UInt8} {at_ e : Nat} {L : List UInt8} (h : At0 b at_ e L) (es : List Int) (hes : es.length ≤ 1000) (hb : b.length ≤ 1000000) (m : UInt8) :
  (∃ body rest, elO L = some (m, body, rest) ∧ whV m = false ∧ tTake n b (at_ : Int) (es ++ [(e : Int)]) m = some (((at_ + (elF m body).length : Nat) : Int), body, none)) ∨ ((∃ c, tTake n b (at_ : Int) (es ++ [(e : Int)]) m = some ((at_ : Int), [], some c)) ∧ ∀ body rest, elO L = some (m, body, rest) → whV m = true) := by
 unfold tTake
 rw [tleft_at n h es hes hb, Option.bind_some]
 simp only []
 rw [h.nil, h.left]
 by_cases hL : L = []
 ·subst hL; exact .inr ⟨⟨_, rfl⟩, fun body rest h => by rw [elO_nil] at h; cases h⟩
 ·have hlen : 0 < L.length := List.length_pos_iff.2 hL
  have h1 := h.fin; have h2 := h.le
  rw [show L.isEmpty = false by cases L with | nil => exact absurd rfl hL | cons _ _ => rfl, cond_false, gd_pos (by omega), gd_pos (by omega), h.hd hL]
  by_cases hm : L.getD 0 0 = m
  ·rw [ite_f (by rw [hm]; simp), thead_cf hn (by omega), Option.bind_some]
   cases hr : (hR L).2.2 with
   | false => exact .inr ⟨⟨_, rfl⟩, fun body rest h => by unfold elO at h; rw [hr] at h; cases h⟩
   | true =>
    rw [show (!true) = false from rfl, cond_false, tisW_is, Option.bind_some]
    have he : ∃ body rest, elO L = some (m, body, rest) := ⟨_, _, by unfold elO; rw [if_pos hr, hm]⟩
    obtain ⟨body, rest, he⟩ := he
    obtain ⟨k1, k2, k3, k4, k5, k6, k7⟩ := elO_some he
    cases hw : whV m with
    | true => exact .inr ⟨⟨_, rfl⟩, fun _ _ _ => rfl⟩
    | false =>
     rw [cond_false, k5, k6]
     have hhd := hdF_len m (body.length : Int)
     have hel : (elF m body).length = (hdF m (body.length : Int)).length + body.length := by unfold elF; rw [List.length_append]
     have hLl : L.length = (elF m body).length + rest.length := (congrArg List.length k1).trans List.length_append
     rw [gd_pos (okI64 (by omega) (by omega)), gd_pos (okI64 (by omega) (by omega)), gd_pos (okI64 (by omega) (by omega)), gd_pos (by omega), gd_pos (by omega), gd_pos (by omega)]
     have ea : oddA at_ ((((hdF m (body.length : Int)).length : Nat) : Int).toNat) = at_ + (hdF m (body.length : Int)).length := by rw [oddA_eq, Int.toNat_natCast]
     have eb : ((b.drop (at_ + (hdF m (body.length : Int)).length)).take (((((((hdF m (body.length : Int)).length : Nat) : Int) + (body.length : Int)).toNat) - ((((hdF m (body.length : Int)).length : Nat) : Int).toNat)))) = body := by
      obtain ⟨T, hT⟩ := h.rest
      rw [← List.drop_drop, hT, k1]
      unfold elF
      rw [List.append_assoc, List.append_assoc, List.drop_left, show (((((hdF m (body.length : Int)).length : Nat) : Int) + (body.length : Int)).toNat) - ((((hdF m (body.length : Int)).length : Nat) : Int).toNat) = body.length by omega, List.take_left]
     rw [ea, eb, gd_pos (by omega)]
     exact .inl ⟨body, rest, he, rfl, by rw [hel, Int.natCast_add, Int.natCast_add]⟩
  ·rw [ite_t (by simpa using hm)]
   exact .inr ⟨⟨_, rfl⟩, fun body rest h => absurd (elO_some h).2.2.2.2.2.2 hm⟩
theorem tEnter_at {n : Nat} (hn : 3 ≤ n) {b : List UInt8} {at_ e : Nat} {L : List UInt8} (h : At0 b at_ e L) (es : List Int) (hes : es.length ≤ 20) (hb : b.length ≤ 1000000) (m : UInt8) :
  (∃ body rest, elO L = some (m, body, rest) ∧ whV m = true ∧ tEnter n b (at_ : Int) (es ++ [(e : Int)]) m = some (((at_ + (hdF m (body.length : Int)).length : Nat) : Int), (es ++ [(e : Int)]) ++ [((at_ + (elF m body).length : Nat) : Int)], none)) ∨ ((∃ c, tEnter n b (at_ : Int) (es ++ [(e : Int)]) m = some ((at_ : Int), es ++ [(e : Int)], some c)) ∧ ∀ body rest, elO L = some (m, body, rest) → whV m = false) := by
 unfold tEnter
 rw [tleft_at n h es (by omega) hb, Option.bind_some]
 simp only []
 rw [h.nil, h.left]
 by_cases hL : L = []
 ·subst hL; exact .inr ⟨⟨_, rfl⟩, fun body rest h => by rw [elO_nil] at h; cases h⟩
 ·have hlen : 0 < L.length := List.length_pos_iff.2 hL
  have h1 := h.fin; have h2 := h.le
  rw [show L.isEmpty = false by cases L with | nil => exact absurd rfl hL | cons _ _ => rfl, cond_false, gd_pos (by omega), gd_pos (by omega), h.hd hL]
  by_cases hm : L.getD 0 0 = m
  ·rw [ite_f (by rw [hm]; simp), thead_cf hn (by omega), Option.bind_some]
   cases hr : (hR L).2.2 with
   | false => exact .inr ⟨⟨_, rfl⟩, fun body rest h => by unfold elO at h; rw [hr] at h; cases h⟩
   | true =>
    rw [show (!true) = false from rfl, cond_false, tisW_is, Option.bind_some]
    have he : ∃ body rest, elO L = some (m, body, rest) := ⟨_, _, by unfold elO; rw [if_pos hr, hm]⟩
    obtain ⟨body, rest, he⟩ := he
    obtain ⟨k1, k2, k3, k4, k5, k6, k7⟩ := elO_some he
    cases hw : whV m with
    | false => exact .inr ⟨⟨_, rfl⟩, fun _ _ _ => rfl⟩
    | true =>
     rw [show (!true) = false from rfl, cond_false, k5, k6]
     have hhd := hdF_len m (body.length : Int)
     have hel : (elF m body).length = (hdF m (body.length : Int)).length + body.length := by unfold elF; rw [List.length_append]
     have hl : (es ++ [(e : Int)]).length = es.length + 1 := by simp
     rw [ite_f (decide_eq_false (by omega)), gd_pos (okI64 (by omega) (by omega)), gd_pos (okI64 (by omega) (by omega)), gd_pos (by unfold rmB; omega)]
     exact .inl ⟨body, rest, he, rfl, by rw [hel, Int.natCast_add, Int.natCast_add, Int.natCast_add, Int.add_assoc]⟩
  ·rw [ite_t (by simpa using hm)]
   exact .inr ⟨⟨_, rfl⟩, fun body rest h => absurd (elO_some h).2.2.2.2.2.2 hm⟩
theorem tLeave_at (n : Nat) {b : List UInt8} {at_ e : Nat} {L : List UInt8} (h : At0 b at_ e L) (es : List Int) (he : es ≠ []) (hes : es.length ≤ 1000) (hb : b.length ≤ 1000000) : tLeave n b (at_ : Int) (es ++ [(e : Int)]) = some (if L = [] then (es, none) else (es ++ [(e : Int)], some 3)) := by
 have hpos := List.length_pos_iff.2 he
 have hl : (es ++ [(e : Int)]).length = es.length + 1 := by simp
 have h1 := h.fin
 unfold tLeave
 rw [ite_f (by rw [hl]; simp; omega), tleft_at n h es hes hb, Option.bind_some]
 simp only []
 cases L with
 | nil =>
  simp only [List.length_nil] at h1
  rw [ite_f (decide_eq_false (by omega)), gd_pos (okI64 (by omega) (by omega)), gd_pos (by omega), gd_pos (by omega), if_pos rfl, show ((((es ++ [(e : Int)]).length : Nat) : Int) - 1).toNat = es.length by rw [hl]; omega, List.take_left]
 | cons x t =>
  simp only [List.length_cons] at h1
  rw [ite_t (decide_eq_true (by omega)), if_neg (List.cons_ne_nil _ _)]
theorem tEnd_at (n : Nat) {b : List UInt8} {at_ e : Nat} {L : List UInt8} (h : At0 b at_ e L) (hb : b.length ≤ 1000000) : tEnd n b (at_ : Int) [(e : Int)] = some (if L = [] then none else some 3) := by
 have h1 := h.fin
 unfold tEnd
 rw [ite_f (by simp), show [(e : Int)] = [] ++ [(e : Int)] from rfl, tleft_at n h [] (by simp) hb, Option.bind_some]
 simp only []
 cases L with
 | nil => simp only [List.length_nil] at h1; rw [ite_f (decide_eq_false (by omega)), if_pos rfl]
 | cons x t => simp only [List.length_cons] at h1; rw [ite_t (decide_eq_true (by omega)), if_neg (List.cons_ne_nil _ _)]
end Go.Sx
end
