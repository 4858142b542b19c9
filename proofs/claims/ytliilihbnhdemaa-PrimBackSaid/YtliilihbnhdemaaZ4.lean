import Derived.Test.YtliilihbnhdemaaZ3
set_option linter.unusedVariables false
set_option linter.unusedSimpArgs false
section
namespace Go.Sx
open Go Go.RowKit Go.Ch Go.Proofs.Ytliilihbnhdemaa
theorem back_3 (a : List UInt8) (r : List UInt8 × Int × Option Int) (h : r.2.2 = none → pBits NB r.1 r.2.1 = some (a, none)) : lBack_j3 NB a true r = some true := by
 unfold lBack_j3
 cases e : r.2.2 with
 | none => rw [ite_t (by rfl), h e, Option.bind_some, ite_f (by rfl), ite_f (by simp)]; rfl
 | some z => rw [ite_f (by rfl)]; rfl
theorem back_5 (a : List UInt8) (r : List UInt8 × Int × Option Int) (h : r.2.2 = none → pBits NB r.1 r.2.1 = some (a, none)) : lBack_j5 NB a true r = some true := by
 unfold lBack_j5
 cases e : r.2.2 with
 | none => rw [ite_t (by rfl), h e, Option.bind_some, ite_f (by rfl), ite_f (by simp)]; rfl
 | some z => rw [ite_f (by rfl)]; rfl
theorem NB_2000 : 2000 ≤ NB := by decide
theorem NB_20000 : 20000 ≤ NB := by decide
theorem NB_100 : 100 ≤ NB := by decide
theorem back_2 (a : List UInt8) (ha : a.length ≤ 200) : lBack_j2 NB a true = some true := by
 obtain ⟨r1, e1, h1⟩ := int_back NB_100 a
 obtain ⟨r2, e2, h2⟩ := oid_back NB_2000 (b := a) (by omega)
 obtain ⟨r3, e3, h3⟩ := bits_back (n := NB) (b := a) (by omega)
 unfold lBack_j2
 rw [e1, Option.bind_some, e2, Option.bind_some, e3, Option.bind_some]
 have hin2 : ∀ (f : Option Bool), f = some true → (bif (r2.2).isNone then
    (pOid NB r2.1).bind fun r186 => bif (!((r186.2).isNone)) then some false else bif (r186.1 != a) then some false else f
   else f) = some true := by
  intro f hf
  cases e : r2.2 with
  | none => rw [ite_t (by rfl), h2 e, Option.bind_some, ite_f (by rfl), ite_f (by simp), hf]
  | some z => rw [ite_f (by rfl), hf]
 cases e : r1.2 with
 | none =>
  rw [ite_t (by rfl), h1 e, Option.bind_some, ite_f (by simp)]
  exact hin2 _ (back_3 a r3 h3)
 | some z =>
  rw [ite_f (by rfl)]
  exact hin2 _ (back_5 a r3 h3)
theorem back_1 (y m d h i s : Int) (a : List UInt8) (ha : a.length ≤ 200) : lBack_j1 NB y m d h i s a true = some true := by
 unfold lBack_j1
 rw [pTime_is NB_100, Option.bind_some]
 by_cases hv : okZ y m d h i s
 ·rw [if_pos hv, ite_t (by rfl), time_there NB_100 hv, Option.bind_some, pCount_is NB_100, Option.bind_some, if_pos hv, at_there NB_20000 hv, Option.bind_some, ite_f (by rfl), ite_f (by simp), ite_f (by rfl), ite_f (by rfl), ite_f (by simp)]
  exact back_2 a ha
 ·rw [if_neg hv, ite_f (by rfl)]
  exact back_2 a ha
theorem lBack_is {a0 : Int} (h1 : -9223372036854775808 ≤ a0) (h2 : a0 < 9223372036854775808) (a : List UInt32) (l : List UInt32) (y m d h i s : Int) (b : List UInt8) : lBack NB a0 a l y m d h i s b = some true := by
 unfold lBack
 rw [upB, Option.bind_some]
 by_cases g1 : 60 < a.length
 ·rw [ite_t (decide_eq_true (by omega))]
 rw [ite_f (decide_eq_false (by omega))]
 by_cases g2 : 50 < l.length
 ·rw [ite_t (decide_eq_true (by omega))]
 rw [ite_f (decide_eq_false (by omega))]
 by_cases g3 : 200 < b.length
 ·rw [ite_t (decide_eq_true (by omega))]
 rw [ite_f (decide_eq_false (by omega))]
 obtain ⟨r, e1, e2⟩ := int_there NB_100 h1 h2
 obtain ⟨x, e3, e4⟩ := big_there NB_ok (a := a) (by omega)
 have hd : (nD (nV a)).length ≤ 60 := Nat.le_trans D_le (by omega)
 have hE : (nE (nV a)).length ≤ 200 := by have := (E64 (nV a)).2 (by omega); omega
 rw [e1, Option.bind_some, e2, Option.bind_some, ite_f (by rfl), ite_f (by simp), e3, Option.bind_some, e4, Option.bind_some, ite_f (by rfl), ite_f (by rfl), rOf_is NB_ok (show (nD (nV a)).length ≤ 100000 by omega), Option.bind_some, rOf_is NB_ok (by omega), Option.bind_some, V_D, rCmp_is NB_ok (by omega) (by omega), Option.bind_some, cmpN_eq rfl, ite_f (by rfl), pOid_is NB_100, Option.bind_some]
 cases hl : oidOk l with
 | true => 
  have h16 := oidOk_len hl
  rw [if_pos rfl, ite_t (by rfl), oid_there NB_2000 hl, Option.bind_some, ite_f (by rfl), lsame_is NB_2000 _ _ (show l.length ≤ 1000 by omega), Option.bind_some, ite_f (by simp)]
  exact back_1 y m d h i s b (by omega)
 | false =>
  rw [if_neg (by simp), ite_f (by rfl)]
  exact back_1 y m d h i s b (by omega)
end Go.Sx
end
section
namespace Go.Sx
open Go Go.RowKit Go.Ch Go.Proofs.Ytliilihbnhdemaa
end Go.Sx
namespace Go.Proofs.Ytliilihbnhdemaa
open Go.RowKit Go.Ch Go.Sx
theorem primBack_c (w : World) (n0 : Int) (hn0 : (Lit.int .i64 n0).wf = true) (B1 : Nat) (v1 : Value) (l1 : List UInt32) (hv1 : Sl w B1 v1 (l1.map w32)) (B2 : Nat) (v2 : Value) (l2 : List UInt32) (hv2 : Sl w B2 v2 (l2.map w32)) (t3_0 t3_1 t3_2 t3_3 t3_4 t3_5 : Int) (B4 : Nat) (v4 : Value) (l4 : List UInt8) (hv4 : Sl w B4 v4 (l4.map bU)) :
  Calls Try.prog 12 #[.int .i64 n0, v1, v2, .agg #[.int .i64 t3_0, .int .i64 t3_1, .int .i64 t3_2, .int .i64 t3_3, .int .i64 t3_4, .int .i64 t3_5], v4] w (Ret fun v' w' => Ext w w' ∧ v' = .bool true) := by
 have r0 : -9223372036854775808 ≤ n0 ∧ n0 < 9223372036854775808 := by simp [Lit.wf, IntKind.min, IntKind.max, IntKind.signed, IntKind.bits] at hn0; omega
 obtain ⟨p1, a1, b1⟩ := in_w hv1 89
 obtain ⟨p2, a2, b2⟩ := in_w hv2 89
 obtain ⟨p4, a4, b4⟩ := in_b hv4 5
 exact law_of (lBack_ok NB true) (args := [.c (.s (.k .i64 n0)), .c (.wh 0), .c (.wh 1), .g 6 (.c [.s (.k .i64 t3_0), .s (.k .i64 t3_1), .s (.k .i64 t3_2), .s (.k .i64 t3_3), .s (.k .i64 t3_4), .s (.k .i64 t3_5)]), .c (.wh 2)]) (H := [⟨.ro false, 89, 1, l1.length, .w l1⟩, ⟨.ro false, 89, 1, l2.length, .w l2⟩, ⟨.ro false, 5, 1, l4.length, .b l4⟩]) (ρ := plL [p1, p2, p4]) (vals := [.int .i64 n0, v1, v2, .agg #[.int .i64 t3_0, .int .i64 t3_1, .int .i64 t3_2, .int .i64 t3_3, .int .i64 t3_4, .int .i64 t3_5], v4]) rfl (allP_cons.2 ⟨lBack_is r0.1 r0.2 l1 l2 t3_0 t3_1 t3_2 t3_3 t3_4 t3_5 l4, allP_nil⟩) trivial (hpL (ps := [p1, p2, p4]) (F2.cons b1 (F2.cons b2 (F2.cons b4 F2.nil)))) (F2.cons rfl (F2.cons a1 (F2.cons a2 (F2.cons ⟨[Value.int .i64 t3_0, Value.int .i64 t3_1, Value.int .i64 t3_2, Value.int .i64 t3_3, Value.int .i64 t3_4, Value.int .i64 t3_5], (F2.cons rfl (F2.cons rfl (F2.cons rfl (F2.cons rfl (F2.cons rfl (F2.cons rfl F2.nil)))))), rfl, rfl⟩ (F2.cons a4 F2.nil)))))
end Go.Proofs.Ytliilihbnhdemaa
end
