import Derived.Test.YtpinmaodpfoinaaNy
import Derived.Test.YtpinmaodpfoinaaNvMuls
set_option linter.unusedVariables false
set_option linter.unusedSimpArgs false
namespace Go.Sx
open Go Go.RowKit Go.Ch Go.Proofs.Ytpinmaodpfoinaa
theorem lMuls_is {n : Nat} (h : Fuel n) (a b : List UInt32) : lMuls n a b = some true := by
  have hn := h.a
  unfold lMuls
  rw [h.up, Option.bind_some, light_is, Option.bind_some, light_is]
  by_cases ha : a.length ≤ 100
  · by_cases hb : b.length ≤ 100
    · rw [ite_f (by simp [ha]), Option.bind_some, ite_f (by simp [hb]), pMul_is hn (by omega) (by omega), rMay_is hn (by omega), rMay_is hn (by omega), rOf_is hn (by omega), rOf_is hn (by omega)]
      by_cases hA : (nD (nV a)).length ≤ 64
      · by_cases hB : (nD (nV b)).length ≤ 64
        · have hab := D_mul_len hA hB
          have e1 := E2 _ hA
          have e2 := E2 _ hB
          have e3 := E2 _ hab
          simp only [hA, hB, and_self, if_true, Option.bind_some, decide_true, Bool.not_true, cond_false, Option.isNone_none, cond_true]
          rw [rMul_is hn (by omega) (by omega), Option.bind_some, rSame_is hn (by omega) (by omega)]; simp
        · simp [hA, hB, gd_pos]
      · simp [hA, gd_pos]
    · rw [ite_f (by simp [ha]), Option.bind_some, ite_t (by simp [hb])]
  · rw [ite_t (by simp [ha])]
end Go.Sx
namespace Go.Proofs.Ytpinmaodpfoinaa
open Go Go.RowKit Go.Ch Go.Sx
theorem natMuls_c (w : World) (B0 : Nat) (v0 : Value) (l0 : List UInt32) (hv0 : Sl w B0 v0 (l0.map w32)) (B1 : Nat) (v1 : Value) (l1 : List UInt32) (hv1 : Sl w B1 v1 (l1.map w32)) :
    Calls Try.prog 6 #[v0, v1] w (Ret fun v' w' => Ext w w' ∧ v' = .bool true) := by
  obtain ⟨p0, a0, b0⟩ := in_w hv0 45
  obtain ⟨p1, a1, b1⟩ := in_w hv1 45
  exact law_of (lMuls_ok NN true) (args := [.c (.wh 0), .c (.wh 1)]) (H := [⟨.ro false, 45, 1, l0.length, .w l0⟩, ⟨.ro false, 45, 1, l1.length, .w l1⟩]) (ρ := plL [p0, p1]) (vals := [v0, v1]) rfl (allP_cons.2 ⟨lMuls_is fuel_NN l0 l1, allP_nil⟩) trivial (hpL (ps := [p0, p1]) (F2.cons b0 (F2.cons b1 F2.nil))) (F2.cons a0 (F2.cons a1 F2.nil))
end Go.Proofs.Ytpinmaodpfoinaa
