import Derived.Test.YtpinmaodpfoinaaNy
import Derived.Test.YtpinmaodpfoinaaNvPowers
set_option linter.unusedVariables false
set_option linter.unusedSimpArgs false
namespace Go.Sx
open Go Go.RowKit Go.Ch Go.Proofs.Ytpinmaodpfoinaa
theorem lPowers_is {n : Nat} (h : Fuel n) (a e f m : List UInt32) : lPowers n a e f m = some true := by
  have hn := h.a
  unfold lPowers
  rw [h.up, Option.bind_some]
  by_cases ha : a.length ≤ 20
  · by_cases he : e.length ≤ 2
    · by_cases hf : f.length ≤ 2
      · by_cases hm : m.length ≤ 6
        · have dA : (nD (nV a)).length ≤ 20 := Nat.le_trans D_le ha
          have dE : (nD (nV e)).length ≤ 2 := Nat.le_trans D_le he
          have dF : (nD (nV f)).length ≤ 2 := Nat.le_trans D_le hf
          have dM : (nD (nV m)).length ≤ 6 := Nat.le_trans D_le hm
          have dS := D_add dE dF
          rw [ite_f (by simp <;> omega), ite_f (by simp <;> omega), ite_f (by simp <;> omega), ite_f (by simp <;> omega)]
          rw [pCmp_is hn (by omega) (by simp), V_nil, Option.bind_some]
          by_cases h0 : nV m = 0
          · rw [h0, ite_t (by rfl)]
          · have hp : nV m > 0 := by omega
            have d1 := D_mono (Nat.le_of_lt (Nat.mod_lt (nV a ^ nV e) hp))
            have d2 := D_mono (Nat.le_of_lt (Nat.mod_lt (nV a ^ nV f) hp))
            have d3 := D_mono (Nat.le_of_lt (Nat.mod_lt (nV a ^ (nV e + nV f)) hp))
            have d4 := D_mul_len d1 d2
            have d5 := D_mono (Nat.le_of_lt (Nat.mod_lt (nV a ^ nV e % nV m * (nV a ^ nV f % nV m)) hp))
            have hmm : nV a ^ nV e % nV m * (nV a ^ nV f % nV m) % nV m = nV a ^ (nV e + nV f) % nV m := by rw [← Nat.mul_mod, Nat.pow_add]
            rw [ite_f (by simp only [beq_eq_false_iff_ne]; rw [Ne, cmpN_zero]; exact h0)]
            rw [pAdd_is hn (by omega) (by omega), if_pos ⟨by omega, by omega⟩, Option.bind_some]
            try dsimp only
            rw [pExp_is hn (by omega) (by omega) (by omega), if_pos ⟨by omega, by omega, by omega⟩, if_neg h0, Option.bind_some]
            try dsimp only
            rw [pExp_is hn (by omega) (by omega) (by omega), if_pos ⟨by omega, by omega, by omega⟩, if_neg h0, Option.bind_some]
            try dsimp only
            rw [pExp_is hn (by omega) (by omega) (by omega), V_D, if_pos ⟨by omega, by omega, by omega⟩, if_neg h0, Option.bind_some]
            try dsimp only
            rw [pMul_is hn (by omega) (by omega), V_D, V_D, if_pos ⟨by omega, by omega⟩, Option.bind_some]
            try dsimp only
            rw [pDiv_is hn (by omega) (by omega), V_D, if_pos ⟨by omega, by omega⟩, if_neg h0, Option.bind_some]
            try dsimp only
            rw [hmm, pCmp_D hn (by omega) (by omega), cmp_same]
            rfl
        · rw [ite_f (by simp <;> omega), ite_f (by simp <;> omega), ite_f (by simp <;> omega), ite_t (by simp <;> omega)]
      · rw [ite_f (by simp <;> omega), ite_f (by simp <;> omega), ite_t (by simp <;> omega)]
    · rw [ite_f (by simp <;> omega), ite_t (by simp <;> omega)]
  · rw [ite_t (by simp <;> omega)]
end Go.Sx
namespace Go.Proofs.Ytpinmaodpfoinaa
open Go Go.RowKit Go.Ch Go.Sx
theorem natPowers_c (w : World) (B0 : Nat) (v0 : Value) (l0 : List UInt32) (hv0 : Sl w B0 v0 (l0.map w32)) (B1 : Nat) (v1 : Value) (l1 : List UInt32) (hv1 : Sl w B1 v1 (l1.map w32)) (B2 : Nat) (v2 : Value) (l2 : List UInt32) (hv2 : Sl w B2 v2 (l2.map w32)) (B3 : Nat) (v3 : Value) (l3 : List UInt32) (hv3 : Sl w B3 v3 (l3.map w32)) :
    Calls Try.prog 10 #[v0, v1, v2, v3] w (Ret fun v' w' => Ext w w' ∧ v' = .bool true) := by
  obtain ⟨p0, a0, b0⟩ := in_w hv0 45
  obtain ⟨p1, a1, b1⟩ := in_w hv1 45
  obtain ⟨p2, a2, b2⟩ := in_w hv2 45
  obtain ⟨p3, a3, b3⟩ := in_w hv3 45
  exact law_of (lPowers_ok NN true) (args := [.c (.wh 0), .c (.wh 1), .c (.wh 2), .c (.wh 3)]) (H := [⟨.ro false, 45, 1, l0.length, .w l0⟩, ⟨.ro false, 45, 1, l1.length, .w l1⟩, ⟨.ro false, 45, 1, l2.length, .w l2⟩, ⟨.ro false, 45, 1, l3.length, .w l3⟩]) (ρ := plL [p0, p1, p2, p3]) (vals := [v0, v1, v2, v3]) rfl (allP_cons.2 ⟨lPowers_is fuel_NN l0 l1 l2 l3, allP_nil⟩) trivial (hpL (ps := [p0, p1, p2, p3]) (F2.cons b0 (F2.cons b1 (F2.cons b2 (F2.cons b3 F2.nil))))) (F2.cons a0 (F2.cons a1 (F2.cons a2 (F2.cons a3 F2.nil))))
end Go.Proofs.Ytpinmaodpfoinaa
