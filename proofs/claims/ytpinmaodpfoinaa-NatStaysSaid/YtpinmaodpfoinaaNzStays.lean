import Derived.Test.YtpinmaodpfoinaaNy
import Derived.Test.YtpinmaodpfoinaaNvStays
set_option linter.unusedVariables false
set_option linter.unusedSimpArgs false
namespace Go.Sx
open Go Go.RowKit Go.Ch Go.Proofs.Ytpinmaodpfoinaa
theorem lsame_l1_refl (n : Nat) (a : List UInt32) (ha : a.length ≤ 1000000) : ∀ (m i fu : Nat), i + m = a.length → m < fu → lsame_l1 n a a fu (i : Int) = some true := by
  intro m
  induction m with
  | zero =>
    intro i fu hi hf
    cases fu with
    | zero => omega
    | succ fu => rw [lsame_l1, ite_f (by simp <;> omega)]
  | succ m ih =>
    intro i fu hi hf
    cases fu with
    | zero => omega
    | succ fu =>
      rw [lsame_l1, ite_t (by simp <;> omega), gd_pos (by omega), gd_pos (by omega), gd_pos (by omega), gd_pos (by omega), ite_f (by simp), gd_pos (okI64 (by omega) (by omega))]
      exact ih (i + 1) fu (by omega) (by omega)
theorem lsame_refl {n : Nat} (hn : 18446744073709551616 ≤ n) (a : List UInt32) (ha : a.length ≤ 1000000) : lsame n a a = some true := by
  unfold lsame
  rw [ite_f (by simp)]
  exact lsame_l1_refl n a ha a.length 0 n (by omega) (by omega)
theorem lStays_l2_is {n : Nat} (hn : 18446744073709551616 ≤ n) (a b : List UInt32) (hb : b.length ≤ 1000000) (r49 : List UInt32 × Nat × Option Int) (r55 : List UInt32 × Nat × List UInt32 × Nat × Option Int) (r63 r69 : List UInt32 × Option Int)
    (h1 : pAdd n a b = some r49) (h2 : pDiv n a b = some r55) (h3 : pExp n a [3] b = some r63) (h4 : pInv n a b = some r69)
    (l1 : r49.1.length ≤ 1000000) (l2 : r55.1.length ≤ 1000000) (l3 : r55.2.2.1.length ≤ 1000000) (l4 : r63.1.length ≤ 1000000) (l5 : r69.1.length ≤ 1000000) :
    ∀ (m i fu : Nat) (w : List UInt32), i + m = b.length → m < fu → lStays_l2 n a b true r49 r55 r63 r69 true fu w (i : Int) = some true := by
  intro m
  induction m with
  | zero =>
    intro i fu w hi hf
    cases fu with
    | zero => omega
    | succ fu =>
      rw [lStays_l2, ite_f (by simp <;> omega), h1, h2, h3, h4]
      simp only [Option.bind_some, cond_true, List.nil_append]
      rw [lsame_refl hn _ l1, lsame_refl hn _ l2, lsame_refl hn _ l3, lsame_refl hn _ l4, lsame_refl hn _ l5]
      simp
  | succ m ih =>
    intro i fu w hi hf
    cases fu with
    | zero => omega
    | succ fu =>
      have e : ((([] ++ b).length : Nat) : Int) = (b.length : Int) := by simp
      rw [lStays_l2, e, ite_t (by simp <;> omega), gd_pos (by omega), gd_pos (by omega), gd_pos (by omega), gd_pos (by omega), gd_pos (okI64 (by omega) (by omega))]
      exact ih (i + 1) fu _ (by omega) (by omega)
theorem lStays_l1_is {n : Nat} (hn : 18446744073709551616 ≤ n) (a b : List UInt32) (ha : a.length ≤ 1000000) (hb : b.length ≤ 1000000) (r49 : List UInt32 × Nat × Option Int) (r55 : List UInt32 × Nat × List UInt32 × Nat × Option Int) (r63 r69 : List UInt32 × Option Int)
    (h1 : pAdd n a b = some r49) (h2 : pDiv n a b = some r55) (h3 : pExp n a [3] b = some r63) (h4 : pInv n a b = some r69)
    (l1 : r49.1.length ≤ 1000000) (l2 : r55.1.length ≤ 1000000) (l3 : r55.2.2.1.length ≤ 1000000) (l4 : r63.1.length ≤ 1000000) (l5 : r69.1.length ≤ 1000000) :
    ∀ (m i fu : Nat) (w : List UInt32), i + m = a.length → m < fu → lStays_l1 n a b true r49 r55 r63 r69 true fu w (i : Int) = some true := by
  intro m
  induction m with
  | zero =>
    intro i fu w hi hf
    cases fu with
    | zero => omega
    | succ fu =>
      rw [lStays_l1, ite_f (by simp <;> omega)]
      exact lStays_l2_is hn a b hb r49 r55 r63 r69 h1 h2 h3 h4 l1 l2 l3 l4 l5 b.length 0 n _ (by omega) (by omega)
  | succ m ih =>
    intro i fu w hi hf
    cases fu with
    | zero => omega
    | succ fu =>
      have e : ((([] ++ a).length : Nat) : Int) = (a.length : Int) := by simp
      rw [lStays_l1, e, ite_t (by simp <;> omega), gd_pos (by omega), gd_pos (by omega), gd_pos (by omega), gd_pos (by omega), gd_pos (okI64 (by omega) (by omega))]
      exact ih (i + 1) fu _ (by omega) (by omega)
theorem lStays_is {n : Nat} (h : Fuel n) (a b : List UInt32) : lStays n a b = some true := by
  have hn := h.a
  unfold lStays
  rw [h.up, Option.bind_some]
  by_cases ha : a.length ≤ 20
  · by_cases hb : b.length ≤ 6
    · rw [ite_f (by simp <;> omega), ite_f (by simp <;> omega), gd_pos (by unfold rmB; omega), gd_pos (by unfold rmB; omega)]
      simp only [List.nil_append]
      have dA : (nD (nV a)).length ≤ 20 := Nat.le_trans D_le ha
      have dB : (nD (nV b)).length ≤ 6 := Nat.le_trans D_le hb
      have d3 : (nD (nV [3])).length ≤ 1 := Nat.le_trans D_le (by simp)
      have hab := D_add (k := 20) dA (Nat.le_trans dB (by decide))
      have h1 := pAdd_is hn (a := a) (b := b) (by omega) (by omega)
      rw [if_pos ⟨by omega, by omega⟩] at h1
      have ⟨r55, h2, l2, l3⟩ : ∃ r, pDiv n a b = some r ∧ r.1.length ≤ 1000000 ∧ r.2.2.1.length ≤ 1000000 := by
        rw [pDiv_is hn (by omega) (by omega), if_pos ⟨by omega, by omega⟩]
        split
        · exact ⟨_, rfl, by simp, by simp⟩
        · have k1 := D_mono (Nat.div_le_self (nV a) (nV b))
          have k2 := D_mono (Nat.mod_le (nV a) (nV b))
          exact ⟨_, rfl, by simp only []; omega, by simp only []; omega⟩
      have ⟨r63, h3, l4⟩ : ∃ r, pExp n a [3] b = some r ∧ r.1.length ≤ 1000000 := by
        rw [pExp_is hn (by omega) (by simp) (by omega), if_pos ⟨by omega, by omega, by omega⟩]
        split
        · exact ⟨_, rfl, by simp⟩
        · have k1 := D_mono (Nat.le_of_lt (Nat.mod_lt (nV a ^ nV [3]) (show 0 < nV b by omega)))
          exact ⟨_, rfl, by simp only []; omega⟩
      have ⟨r69, h4, l5⟩ : ∃ r, pInv n a b = some r ∧ r.1.length ≤ 1000000 := by
        obtain ⟨r, k, hr⟩ := pInv_is h.b (a := a) (m := b) (by omega) (by omega)
        refine ⟨r, k, ?_⟩
        rw [if_pos ⟨by omega, by omega⟩] at hr
        split at hr
        · rw [hr]; simp
        · by_cases hg : Nat.gcd (nV a % nV b) (nV b) = 1
          · obtain ⟨u, hu, _, rfl⟩ := hr.1 hg
            have k1 := D_mono (Nat.le_of_lt hu)
            simp only []; omega
          · rw [hr.2 hg]; simp
      rw [h1, h2, h3, h4]
      simp only [Option.bind_some]
      rw [lsame_refl hn a (by omega), lsame_refl hn b (by omega)]
      simp only [Option.bind_some, cond_true]
      rw [gd_pos (by unfold rmB; omega)]
      exact lStays_l1_is hn a b (by omega) (by omega) _ r55 r63 r69 h1 h2 h3 h4 (by simp only []; omega) l2 l3 l4 l5 a.length 0 n _ (by omega) (by omega)
    · rw [ite_f (by simp <;> omega), ite_t (by simp <;> omega)]
  · rw [ite_t (by simp <;> omega)]
end Go.Sx
namespace Go.Proofs.Ytpinmaodpfoinaa
open Go Go.RowKit Go.Ch Go.Sx
theorem natStays_c (w : World) (B0 : Nat) (v0 : Value) (l0 : List UInt32) (hv0 : Sl w B0 v0 (l0.map w32)) (B1 : Nat) (v1 : Value) (l1 : List UInt32) (hv1 : Sl w B1 v1 (l1.map w32)) :
    Calls Try.prog 8 #[v0, v1] w (Ret fun v' w' => Ext w w' ∧ v' = .bool true) := by
  obtain ⟨p0, a0, b0⟩ := in_w hv0 45
  obtain ⟨p1, a1, b1⟩ := in_w hv1 45
  exact law_of (lStays_ok NN true) (args := [.c (.wh 0), .c (.wh 1)]) (H := [⟨.ro false, 45, 1, l0.length, .w l0⟩, ⟨.ro false, 45, 1, l1.length, .w l1⟩]) (ρ := plL [p0, p1]) (vals := [v0, v1]) rfl (allP_cons.2 ⟨lStays_is fuel_NN l0 l1, allP_nil⟩) trivial (hpL (ps := [p0, p1]) (F2.cons b0 (F2.cons b1 F2.nil))) (F2.cons a0 (F2.cons a1 F2.nil))
end Go.Proofs.Ytpinmaodpfoinaa
