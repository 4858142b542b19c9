import Derived.Test.YtpinmaodpfoinaaNy
import Derived.Test.YtpinmaodpfoinaaNvExps
set_option linter.unusedVariables false
set_option linter.unusedSimpArgs false
namespace Go.Sx
open Go Go.RowKit Go.Ch Go.Proofs.Ytpinmaodpfoinaa
theorem lExps_is {n : Nat} (h : Fuel n) (a e m : List UInt32) : lExps n a e m = some true := by
  have hn := h.a
  unfold lExps
  rw [h.up, Option.bind_some]
  simp only [light_is, Option.bind_some]
  have core : a.length ≤ 100 → e.length ≤ 100 → m.length ≤ 100 → ((pExp n a e m).bind fun r50 =>
      (rMay n a).bind fun r54 =>
      bif (!r54) then
        bif true then
          gd (¬((r50.2 : Option Int) = none ∧ ((some 4) : Option Int) = none)) <|
          bif (r50.2 == (some 4)) then
            some (((r50.1.length : Nat) : Int) == 0)
          else
            some false
        else
          some false
      else
        (rMay n e).bind fun r58 =>
        bif (!r58) then
          bif true then
            gd (¬((r50.2 : Option Int) = none ∧ ((some 4) : Option Int) = none)) <|
            bif (r50.2 == (some 4)) then
              some (((r50.1.length : Nat) : Int) == 0)
            else
              some false
          else
            some false
        else
          (rMay n m).bind fun r63 =>
          bif (!r63) then
            bif true then
              gd (¬((r50.2 : Option Int) = none ∧ ((some 4) : Option Int) = none)) <|
              bif (r50.2 == (some 4)) then
                some (((r50.1.length : Nat) : Int) == 0)
              else
                some false
            else
              some false
          else
            (rOf n m).bind fun r78 =>
            bif (((r78.2 : Nat) : Int) == 0) then
              bif true then
                gd (¬((r50.2 : Option Int) = none ∧ ((some 1) : Option Int) = none)) <|
                bif (r50.2 == (some 1)) then
                  some (((r50.1.length : Nat) : Int) == 0)
                else
                  some false
              else
                some false
            else
              bif true then
                bif ((r50.2).isNone) then
                  (rOf n a).bind fun r101 =>
                  (rOf n e).bind fun r103 =>
                  (rExp n r101.1 r103.1 r78.1).bind fun r105 =>
                  (rSame n r50.1 r105.1).bind fun r106 =>
                  some r106
                else
                  some false
              else
                some false) = some true := by
    intro ha he hm
    rw [pExp_is hn (by omega) (by omega) (by omega), rMay_is hn (by omega), rMay_is hn (by omega), rMay_is hn (by omega), rOf_is hn (by omega), rOf_is hn (by omega), rOf_is hn (by omega)]
    by_cases hA : (nD (nV a)).length ≤ 64
    · by_cases hB : (nD (nV e)).length ≤ 64
      · by_cases hM : (nD (nV m)).length ≤ 64
        · by_cases h0 : nV m = 0
          · simp [hA, hB, h0, D_zero, E_zero, gd_pos]
          · have e1 := E2 _ hA
            have e2 := E2 _ hB
            have e3 := E2 _ hM
            have hml := D_mono (Nat.le_of_lt (Nat.mod_lt (nV a ^ nV e) (show nV m > 0 by omega)))
            have hmE := E_mono (Nat.le_of_lt (Nat.mod_lt (nV a ^ nV e) (show nV m > 0 by omega)))
            have hl : ((((nE (nV m)).length : Nat) : Int) == 0) = false := by
              have := mt E_zero_iff.1 h0
              simp only [beq_eq_false_iff_ne]; omega
            simp only [hA, hB, hM, h0, hl, and_self, if_true, if_false, Option.bind_some, decide_true, Bool.not_true, cond_false, Option.isNone_none, cond_true]
            rw [rExp_is hn (by omega) (by omega) (by omega) h0, Option.bind_some, rSame_is hn (by omega) (by omega)]; simp
        · simp [hA, hB, hM, gd_pos]
      · simp [hA, hB, gd_pos]
    · simp [hA, gd_pos]
  by_cases ha : a.length ≤ 100
  · rw [ite_f (by simp [ha])]
    by_cases he : e.length ≤ 100
    · by_cases hm : m.length ≤ 100
      · simp only [he, hm, decide_true, Bool.not_true, cond_false]
        generalize decide ((3 : Int) < ((e.length : Nat) : Int)) = c1
        generalize decide (((e.length : Nat) : Int) ≤ (64 : Int)) = c2
        generalize decide ((8 : Int) < ((m.length : Nat) : Int)) = c3
        generalize decide (((m.length : Nat) : Int) ≤ (64 : Int)) = c4
        have core := core ha he hm
        cases c1 <;> cases c2 <;> cases c3 <;> cases c4 <;> first | rfl | exact core
      · simp only [he, hm, decide_true, decide_false, Bool.not_true, Bool.not_false, cond_false, cond_true]
        generalize decide ((3 : Int) < ((e.length : Nat) : Int)) = c1
        generalize decide (((e.length : Nat) : Int) ≤ (64 : Int)) = c2
        generalize decide ((8 : Int) < ((m.length : Nat) : Int)) = c3
        generalize decide (((m.length : Nat) : Int) ≤ (64 : Int)) = c4
        cases c1 <;> cases c2 <;> cases c3 <;> cases c4 <;> rfl
    · simp only [he, decide_false, Bool.not_false, cond_true]
      generalize decide ((3 : Int) < ((e.length : Nat) : Int)) = c1
      generalize decide (((e.length : Nat) : Int) ≤ (64 : Int)) = c2
      cases c1 <;> cases c2 <;> rfl
  · rw [ite_t (by simp [ha])]
end Go.Sx
namespace Go.Proofs.Ytpinmaodpfoinaa
open Go Go.RowKit Go.Ch Go.Sx
theorem natExps_c (w : World) (B0 : Nat) (v0 : Value) (l0 : List UInt32) (hv0 : Sl w B0 v0 (l0.map w32)) (B1 : Nat) (v1 : Value) (l1 : List UInt32) (hv1 : Sl w B1 v1 (l1.map w32)) (B2 : Nat) (v2 : Value) (l2 : List UInt32) (hv2 : Sl w B2 v2 (l2.map w32)) :
    Calls Try.prog 4 #[v0, v1, v2] w (Ret fun v' w' => Ext w w' ∧ v' = .bool true) := by
  obtain ⟨p0, a0, b0⟩ := in_w hv0 45
  obtain ⟨p1, a1, b1⟩ := in_w hv1 45
  obtain ⟨p2, a2, b2⟩ := in_w hv2 45
  exact law_of (lExps_ok NN true) (args := [.c (.wh 0), .c (.wh 1), .c (.wh 2)]) (H := [⟨.ro false, 45, 1, l0.length, .w l0⟩, ⟨.ro false, 45, 1, l1.length, .w l1⟩, ⟨.ro false, 45, 1, l2.length, .w l2⟩]) (ρ := plL [p0, p1, p2]) (vals := [v0, v1, v2]) rfl (allP_cons.2 ⟨lExps_is fuel_NN l0 l1 l2, allP_nil⟩) trivial (hpL (ps := [p0, p1, p2]) (F2.cons b0 (F2.cons b1 (F2.cons b2 F2.nil)))) (F2.cons a0 (F2.cons a1 (F2.cons a2 F2.nil)))
end Go.Proofs.Ytpinmaodpfoinaa
