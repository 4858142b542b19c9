import Derived.Test.YtpinmaodpfoinaaNy
import Derived.Test.YtpinmaodpfoinaaNvInvs
set_option linter.unusedVariables false
set_option linter.unusedSimpArgs false
namespace Go.Sx
open Go Go.RowKit Go.Ch Go.Proofs.Ytpinmaodpfoinaa
theorem lInvs_is {n : Nat} (h : Fuel n) (a m : List UInt32) : lInvs n a m = some true := by
  have hn := h.a
  unfold lInvs
  rw [h.up, Option.bind_some, light_is, Option.bind_some, light_is]
  by_cases ha : a.length ≤ 100
  · by_cases hm : m.length ≤ 100
    · obtain ⟨r, hr, hrr⟩ := pInv_is h.b (a := a) (m := m) (by omega) (by omega)
      rw [ite_f (by simp [ha]), Option.bind_some, ite_f (by simp [hm]), hr, rMay_is hn (by omega), rMay_is hn (by omega), rOf_is hn (by omega), rOf_is hn (by omega)]
      simp only [Option.bind_some]
      by_cases hA : (nD (nV a)).length ≤ 64
      · by_cases hB : (nD (nV m)).length ≤ 64
        · rw [if_pos ⟨hA, hB⟩] at hrr
          have e1 := E2 _ hA
          have e2 := E2 _ hB
          have et : nE 2 = [2] := E_one (by decide) (by decide)
          have hc := rCmp_is hn (x := nV m) (y := 2) (by omega) (by rw [et]; decide)
          rw [et] at hc
          rw [hc, Option.bind_some]
          simp only [hA, hB, decide_true, Bool.not_true, cond_false]
          by_cases h2 : nV m < 2
          · rw [if_pos h2] at hrr
            subst hrr
            simp [cmpN_lt h2, gd_pos]
          · rw [if_neg h2] at hrr
            obtain ⟨hg1, hg2⟩ := hrr
            have hcc : ¬ cmpN (nV m) 2 < 0 := fun h => h2 (cmpN_neg.1 h)
            have hmod := Nat.mod_lt (nV a) (show nV m > 0 by omega)
            have e3 := E_mono (Nat.le_of_lt hmod)
            have hmb := (D_len (nV m) 64).1 hB
            have hbn := h.b
            simp only [hcc, decide_false, cond_false]
            rw [rRest_is hn (by omega) (by omega) (by omega), Option.bind_some, rGcd_is hn (by omega) (by omega) (by omega), Option.bind_some]
            by_cases hg : Nat.gcd (nV a % nV m) (nV m) = 1
            · obtain ⟨u, hu, hua, rfl⟩ := hg1 hg
              have eo : nE 1 = [1] := E_one (by decide) (by decide)
              have dul := D_mono (Nat.le_of_lt hu)
              have eul := E_mono (Nat.le_of_lt hu)
              have hml := E_mul_len (x := u) (y := nV a) (k := 128) (l := 128) (by omega) (by omega)
              try dsimp only
              rw [hg, eo, rOf_is hn (by omega), V_D, Option.bind_some, rMul_is hn (by omega) (by omega), Option.bind_some, rRest_is hn (by omega) (by omega) (by omega), Option.bind_some, hua, eo, rSame_is hn (by omega) (by omega), rCmp_is hn (by omega) (by omega), cmpN_lt hu]
              simp [gd_pos]
            · have hr := hg2 hg
              subst hr
              generalize hG : Nat.gcd (nV a % nV m) (nV m) = G at *
              have ex : (nE G).length = 1 → (nE G).getD 0 0 ≠ 1 := by
                intro hl h1
                have := zpos (l := nE G) (by omega)
                rw [Z_E, hl] at this
                simp only [Nat.sub_self, List.take_zero, Z_nil, Nat.pow_zero, Nat.one_mul, Nat.zero_add] at this
                rw [h1] at this
                exact hg this
              by_cases hl : (nE G).length = 1
              · have := ex hl
                simp only [hl]
                rw [ite_f (by rfl), gd_pos (by omega), gd_pos (by decide), ite_t (by simp only [bne_iff_ne]; exact this)]
                simp [gd_pos]
              · rw [ite_t (by simp only [bne_iff_ne]; omega)]
                simp [gd_pos]
        · rw [if_neg (fun h => hB h.2)] at hrr
          subst hrr
          simp [hA, hB, gd_pos]
      · rw [if_neg (fun h => hA h.1)] at hrr
        subst hrr
        simp [hA, gd_pos]
    · rw [ite_f (by simp [ha]), Option.bind_some, ite_t (by simp [hm])]
  · rw [ite_t (by simp [ha])]
end Go.Sx
namespace Go.Proofs.Ytpinmaodpfoinaa
open Go Go.RowKit Go.Ch Go.Sx
theorem natInvs_c (w : World) (B0 : Nat) (v0 : Value) (l0 : List UInt32) (hv0 : Sl w B0 v0 (l0.map w32)) (B1 : Nat) (v1 : Value) (l1 : List UInt32) (hv1 : Sl w B1 v1 (l1.map w32)) :
    Calls Try.prog 5 #[v0, v1] w (Ret fun v' w' => Ext w w' ∧ v' = .bool true) := by
  obtain ⟨p0, a0, b0⟩ := in_w hv0 45
  obtain ⟨p1, a1, b1⟩ := in_w hv1 45
  exact law_of (lInvs_ok NN true) (args := [.c (.wh 0), .c (.wh 1)]) (H := [⟨.ro false, 45, 1, l0.length, .w l0⟩, ⟨.ro false, 45, 1, l1.length, .w l1⟩]) (ρ := plL [p0, p1]) (vals := [v0, v1]) rfl (allP_cons.2 ⟨lInvs_is fuel_NN l0 l1, allP_nil⟩) trivial (hpL (ps := [p0, p1]) (F2.cons b0 (F2.cons b1 F2.nil))) (F2.cons a0 (F2.cons a1 F2.nil))
end Go.Proofs.Ytpinmaodpfoinaa
