import Derived.Test.YtpinmaodpfoinaaNy
import Derived.Test.YtpinmaodpfoinaaNvRing
set_option linter.unusedVariables false
set_option linter.unusedSimpArgs false
namespace Go.Sx
open Go Go.RowKit Go.Ch Go.Proofs.Ytpinmaodpfoinaa
theorem lRing_is {n : Nat} (h : Fuel n) (a b c : List UInt32) : lRing n a b c = some true := by
  have hn := h.a
  unfold lRing
  rw [h.up, Option.bind_some]
  by_cases ha : a.length ≤ 15
  · by_cases hb : b.length ≤ 15
    · by_cases hc : c.length ≤ 15
      · have dA : (nD (nV a)).length ≤ 15 := Nat.le_trans D_le ha
        have dB : (nD (nV b)).length ≤ 15 := Nat.le_trans D_le hb
        have dC : (nD (nV c)).length ≤ 15 := Nat.le_trans D_le hc
        have dS := D_add dA dB
        have dS' := D_add dB dA
        have dP := D_mul_len dA dB
        have dP' := D_mul_len dB dA
        have dL := D_mul_len dC dS
        have dca := D_mul_len dC dA
        have dcb := D_mul_len dC dB
        have dR := D_add dca dcb
        have dd := D_mono (Nat.sub_le (nV a + nV b) (nV b))
        rw [ite_f (by simp <;> omega), ite_f (by simp <;> omega), ite_f (by simp <;> omega)]
        rw [pAdd_is hn (by omega) (by omega), if_pos ⟨by omega, by omega⟩, Option.bind_some]
        try dsimp only
        rw [pAdd_is hn (by omega) (by omega), if_pos ⟨by omega, by omega⟩, Option.bind_some]
        try dsimp only
        rw [pMul_is hn (by omega) (by omega), if_pos ⟨by omega, by omega⟩, Option.bind_some]
        try dsimp only
        rw [pMul_is hn (by omega) (by omega), if_pos ⟨by omega, by omega⟩, Option.bind_some]
        try dsimp only
        rw [pMul_is hn (by omega) (by omega), V_D, if_pos ⟨by omega, by omega⟩, Option.bind_some]
        try dsimp only
        rw [pMul_is hn (by omega) (by omega), if_pos ⟨by omega, by omega⟩, Option.bind_some]
        try dsimp only
        rw [pMul_is hn (by omega) (by omega), if_pos ⟨by omega, by omega⟩, Option.bind_some]
        try dsimp only
        rw [pAdd_is hn (by omega) (by omega), V_D, V_D, if_pos ⟨by omega, by omega⟩, Option.bind_some]
        try dsimp only
        rw [pSub_is hn (by omega) (by omega), V_D, if_pos ⟨by omega, by omega⟩, if_neg (by omega), Option.bind_some]
        try dsimp only
        simp only [Option.isNone_none, Bool.not_true, cond_false]
        rw [pCmp_D hn (by omega) (by omega), Nat.add_comm (nV b) (nV a), cmp_same, Option.bind_some, ite_f (by rfl)]
        rw [pCmp_D hn (by omega) (by omega), Nat.mul_comm (nV b) (nV a), cmp_same, Option.bind_some, ite_f (by rfl)]
        rw [pCmp_D hn (by omega) (by omega), Nat.mul_add (nV c), cmp_same, Option.bind_some, ite_f (by rfl)]
        rw [pCmp_is hn (by omega) (by omega), V_D, Nat.add_sub_cancel, cmp_same, Option.bind_some, ite_f (by rfl)]
        rw [pDiv_is hn (by omega) (by omega), V_D, if_pos ⟨by omega, by omega⟩, pCmp_is hn (by omega) (by simp), V_nil]
        by_cases h0 : nV c = 0
        · rw [if_pos h0, h0]; rfl
        · have d1 := D_mono (Nat.div_le_self (nV a * nV b) (nV c))
          have d2 := D_mono (Nat.mod_le (nV a * nV b) (nV c))
          have hle : nV a * nV b / nV c * nV c ≤ nV a * nV b := Nat.div_mul_le_self _ _
          have d3 := D_mono hle
          have hs : nV a * nV b / nV c * nV c + nV a * nV b % nV c = nV a * nV b := by rw [Nat.mul_comm]; exact Nat.div_add_mod _ _
          rw [if_neg h0, Option.bind_some, Option.bind_some, ite_f (by simp only [beq_eq_false_iff_ne]; rw [Ne, cmpN_zero]; exact h0)]
          try dsimp only
          rw [pMul_is hn (by omega) (by omega), V_D, if_pos ⟨by omega, by omega⟩, Option.bind_some]
          try dsimp only
          rw [pAdd_is hn (by omega) (by omega), V_D, V_D, if_pos ⟨by omega, by omega⟩, Option.bind_some, hs]
          try dsimp only
          rw [pCmp_D hn (by omega) (by omega), cmp_same, pCmp_is hn (by omega) (by omega), V_D, cmpN_lt (Nat.mod_lt _ (by omega))]
          rfl
      · rw [ite_f (by simp <;> omega), ite_f (by simp <;> omega), ite_t (by simp <;> omega)]
    · rw [ite_f (by simp <;> omega), ite_t (by simp <;> omega)]
  · rw [ite_t (by simp <;> omega)]
end Go.Sx
namespace Go.Proofs.Ytpinmaodpfoinaa
open Go Go.RowKit Go.Ch Go.Sx
theorem natRing_c (w : World) (B0 : Nat) (v0 : Value) (l0 : List UInt32) (hv0 : Sl w B0 v0 (l0.map w32)) (B1 : Nat) (v1 : Value) (l1 : List UInt32) (hv1 : Sl w B1 v1 (l1.map w32)) (B2 : Nat) (v2 : Value) (l2 : List UInt32) (hv2 : Sl w B2 v2 (l2.map w32)) :
    Calls Try.prog 9 #[v0, v1, v2] w (Ret fun v' w' => Ext w w' ∧ v' = .bool true) := by
  obtain ⟨p0, a0, b0⟩ := in_w hv0 45
  obtain ⟨p1, a1, b1⟩ := in_w hv1 45
  obtain ⟨p2, a2, b2⟩ := in_w hv2 45
  exact law_of (lRing_ok NN true) (args := [.c (.wh 0), .c (.wh 1), .c (.wh 2)]) (H := [⟨.ro false, 45, 1, l0.length, .w l0⟩, ⟨.ro false, 45, 1, l1.length, .w l1⟩, ⟨.ro false, 45, 1, l2.length, .w l2⟩]) (ρ := plL [p0, p1, p2]) (vals := [v0, v1, v2]) rfl (allP_cons.2 ⟨lRing_is fuel_NN l0 l1 l2, allP_nil⟩) trivial (hpL (ps := [p0, p1, p2]) (F2.cons b0 (F2.cons b1 (F2.cons b2 F2.nil)))) (F2.cons a0 (F2.cons a1 (F2.cons a2 F2.nil)))
end Go.Proofs.Ytpinmaodpfoinaa
