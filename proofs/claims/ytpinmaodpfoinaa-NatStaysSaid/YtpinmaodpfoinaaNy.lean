import Derived.Test.YtpinmaodpfoinaaNx
import Derived.Test.YtpinmaodpfoinaaNu
set_option linter.unusedVariables false
set_option linter.unusedSimpArgs false
namespace Go.Sx
open Go Go.RowKit Go.Ch Go.Proofs.Ytpinmaodpfoinaa
theorem zpos {l : List Int} (h : l.length ≠ 0) : nZ l = nZ (l.take (l.length - 1)) + 65536 ^ (l.length - 1) * (l.getD (l.length - 1) 0).toNat := by
  have h1 := Z_take l (l.length - 1) (by omega)
  rwa [show l.length - 1 + 1 = l.length by omega, List.take_length] at h1
theorem lastZ {l : List Int} (h : l ≠ []) : l.getLast h = l.getD (l.length - 1) 0 := by
  have : l.length - 1 < l.length := by have := List.length_pos_iff.2 h; omega
  rw [List.getLast_eq_getElem, List.getD_eq_getElem?_getD, List.getElem?_eq_getElem this]; rfl
theorem Dz.get {l : List Int} (h : Dz l) (i : Nat) : 0 ≤ l.getD i 0 ∧ l.getD i 0 < 65536 := by
  by_cases hi : i < l.length
  · rw [List.getD_eq_getElem?_getD, List.getElem?_eq_getElem hi]; exact h _ (List.getElem_mem hi)
  · rw [List.getD_eq_getElem?_getD, List.getElem?_eq_none (by omega)]; decide
theorem Dz.take {l : List Int} (h : Dz l) (i : Nat) : Dz (l.take i) := fun x hx => h x (List.mem_of_mem_take hx)
theorem Dz.app {l m : List Int} (h : Dz l) (h2 : Dz m) : Dz (l ++ m) := fun x hx => (List.mem_append.1 hx).elim (h x) (h2 x)
theorem Dz.one {x : Int} (h : 0 ≤ x ∧ x < 65536) : Dz [x] := fun y hy => by rw [List.mem_singleton.1 hy]; exact h
theorem Dz.nil : Dz [] := fun x hx => by cases hx
theorem Dz.rep (n : Nat) : Dz (List.replicate n 0) := fun x hx => by rw [(List.mem_replicate.1 hx).2]; decide
theorem Dz.set {l : List Int} (h : Dz l) {x : Int} (hx : 0 ≤ x ∧ x < 65536) (i : Nat) : Dz (l.set i x) := fun y hy => (List.mem_or_eq_of_mem_set hy).elim (h y) fun e => by rw [e]; exact hx
theorem rtrim_l1_is (n : Nat) (a : List Int) (hd : Dz a) (ha : a.length ≤ 1000000) : ∀ (k fu : Nat), k < fu → k ≤ a.length → nZ (a.take k) = nZ a →
    ∃ m, rtrim_l1 n a fu (k : Int) = some (a, m) ∧ a.take m = nE (nZ a) ∧ m = (nE (nZ a)).length := by
  intro k
  have fin : ∀ k, k ≤ a.length → a.take k = nE (nZ a) → k = (nE (nZ a)).length := fun k h1 h2 => by rw [← h2, List.length_take]; omega
  induction k with
  | zero =>
    intro fu hf hk he
    cases fu with
    | zero => omega
    | succ fu =>
      have h0 : nZ a = 0 := by rw [← he]; rfl
      have h1 : a.take 0 = nE (nZ a) := by rw [h0, E_zero]; rfl
      exact ⟨0, by rw [rtrim_l1, ite_f (by simp), gd_pos (by omega), gd_pos (by omega)]; rfl, h1, fin 0 hk h1⟩
  | succ k ih =>
    intro fu hf hk he
    cases fu with
    | zero => omega
    | succ fu =>
      have e : (((k + 1 : Nat) : Int) - 1) = (k : Int) := by omega
      rw [rtrim_l1, ite_t (by simp <;> omega), e, gd_pos (okI64 (by omega) (by omega)), gd_pos (by omega), gd_pos (by omega), Int.toNat_natCast]
      have h1 := Z_take a k (by omega)
      by_cases hz : a.getD k 0 = 0
      · rw [ite_t (by rw [hz]; rfl), gd_pos (okI64 (by omega) (by omega))]
        rw [hz] at h1
        exact ih fu (by omega) (by omega) (by rw [← he, h1]; rfl)
      · rw [ite_f (by simp only [beq_eq_false_iff_ne]; exact hz), gd_pos (by omega), gd_pos (by omega)]
        have hl : (a.take (k + 1)).length = k + 1 := by rw [List.length_take]; omega
        have h2 : a.take (k + 1) = nE (nZ a) := by
          rw [← he]
          refine (E_Z (hd.take _) fun hn => ?_).symm
          rw [lastZ hn, hl, Nat.add_sub_cancel, List.getD_eq_getElem?_getD, List.getElem?_take_of_lt (by omega), ← List.getD_eq_getElem?_getD]
          exact hz
        exact ⟨k + 1, by rw [show (((k + 1 : Nat) : Int)).toNat = k + 1 by omega], h2, fin _ hk h2⟩
theorem rtrim_is {n : Nat} (hn : 18446744073709551616 ≤ n) {a : List Int} (hd : Dz a) (ha : a.length ≤ 1000000) : rtrim n a = some (a, (nE (nZ a)).length) ∧ (a.drop 0).take (nE (nZ a)).length = nE (nZ a) := by
  obtain ⟨m, h1, h2, h3⟩ := rtrim_l1_is n a hd ha a.length n (by omega) (Nat.le_refl _) (by rw [List.take_length])
  subst h3
  exact ⟨h1, h2⟩
/-- the document's numbers of limbs -/
theorem rOf_l1_is {n : Nat} (hn : 18446744073709551616 ≤ n) (a : List UInt32) (ha : a.length ≤ 100000) : ∀ (m i fu : Nat) (z : List Int), i + m = a.length → m < fu → z.length = 2 * i → Dz z → nZ z = nV (a.take i) →
    rOf_l1 n a fu z (i : Int) = some (nE (nV a), (nE (nV a)).length) := by
  intro m
  induction m with
  | zero =>
    intro i fu z hi hf hz hd he
    cases fu with
    | zero => omega
    | succ fu =>
      rw [List.take_of_length_le (by omega)] at he
      obtain ⟨h1, h2⟩ := rtrim_is hn hd (by omega)
      rw [rOf_l1, ite_f (by simp <;> omega), h1]
      simp only [Option.bind_some]
      rw [h2, he]
  | succ m ih =>
    intro i fu z hi hf hz hd he
    cases fu with
    | zero => omega
    | succ fu =>
      rw [rOf_l1, ite_t (by simp <;> omega), gd_pos (by omega), gd_pos (by omega), gd_pos (by decide), gd_pos (by omega), gd_pos (by omega), gd_pos (by decide), gd_pos (by unfold rmB; omega), gd_pos (okI64 (by omega) (by omega)), Int.toNat_natCast]
      have hX := u32_lt (a.getD i 0)
      have e1 : (a.getD i 0 % 65536).toNat = (a.getD i 0).toNat % 65536 := UInt32.toNat_mod _ _
      have e2 : (a.getD i 0 / 65536).toNat = (a.getD i 0).toNat / 65536 := UInt32.toNat_div _ _
      rw [e1, e2]
      refine ih (i + 1) fu _ (by omega) (by omega) (by simp <;> omega) (hd.app (by
        intro x hx
        rcases List.mem_cons.1 hx with rfl | hx
        · omega
        · rw [List.mem_singleton.1 hx]; omega)) ?_
      rw [Z_app, he, V_take', hz, Z_cons, Z_cons, Z_nil, Int.toNat_natCast, Int.toNat_natCast, Nat.pow_mul]
      have hdm := Nat.mod_add_div (a.getD i 0).toNat 65536
      show _ + 4294967296 ^ i * _ = _
      generalize (a.getD i 0).toNat % 65536 = x at *
      generalize (a.getD i 0).toNat / 65536 = y at *
      rw [← hdm]; rfl
theorem rOf_is {n : Nat} (hn : 18446744073709551616 ≤ n) {a : List UInt32} (ha : a.length ≤ 100000) : rOf n a = some (nE (nV a), (nE (nV a)).length) :=
  rOf_l1_is hn a ha a.length 0 n [] (by omega) (by omega) rfl Dz.nil rfl
theorem E64 (v : Nat) : (nE v).length ≤ 128 ↔ (nD v).length ≤ 64 := by
  rw [E_len, D_len, show (65536 : Nat) ^ 128 = 4294967296 ^ 64 by rw [show (128 : Nat) = 2 * 64 from rfl, Nat.pow_mul]]
theorem rMay_is {n : Nat} (hn : 18446744073709551616 ≤ n) {a : List UInt32} (ha : a.length ≤ 100000) : rMay n a = some (decide ((nD (nV a)).length ≤ 64)) := by
  unfold rMay
  rw [rOf_is hn ha]
  simp only [Option.bind_some]
  congr 1
  rw [Bool.eq_iff_iff]
  simp only [decide_eq_true_eq, ← E64]
  omega
theorem rdigit_is (n : Nat) (a : List Int) (i : Nat) : rdigit n a (i : Int) = some (a.getD i 0) := by
  unfold rdigit
  by_cases h : i < a.length
  · rw [ite_t (by simp <;> omega), gd_pos (by omega), gd_pos (by omega), Int.toNat_natCast]
  · rw [ite_f (by simp <;> omega), List.getD_eq_getElem?_getD, List.getElem?_eq_none (by omega)]; rfl
theorem rCmp_l1_is (n : Nat) (u v : List Int) (hu : Dz u) (hv : Dz v) (lu : Nat) (h1 : u.length = lu) (h2 : v.length = lu) (hlu : lu ≤ 1000000) : ∀ (j fu : Nat), j < fu → j ≤ lu → nZ (u.drop j) = nZ (v.drop j) →
    rCmp_l1 n u v fu ((j : Int) - 1) = some (cmpN (nZ u) (nZ v)) := by
  intro j
  induction j with
  | zero =>
    intro fu hf _ he
    cases fu with
    | zero => omega
    | succ fu => rw [rCmp_l1, ite_f (by simp), cmpN_eq (by simpa using he)]
  | succ j ih =>
    intro fu hf hj he
    cases fu with
    | zero => omega
    | succ fu =>
      have e : (((j + 1 : Nat) : Int) - 1) = (j : Int) := by omega
      have e1 := Z_drop u j (by omega)
      have e2 := Z_drop v j (by omega)
      have s1 := Z_split u j
      have s2 := Z_split v j
      have l1 := Z_lt (hu.take j)
      have l2 := Z_lt (hv.take j)
      have m1 : (u.take j).length = j := by simp; omega
      have m2 : (v.take j).length = j := by simp; omega
      have g1 := hu.get j
      have g2 := hv.get j
      rw [m1] at l1; rw [m2] at l2
      rw [e, rCmp_l1, ite_t (by simp), gd_pos (by omega), gd_pos (by omega), gd_pos (by omega), gd_pos (by omega)]
      simp only [Int.toNat_natCast]
      by_cases hne : u.getD j 0 = v.getD j 0
      · rw [ite_f (by rw [hne]; simp), gd_pos (okI64 (by omega) (by omega))]
        exact ih fu (by omega) (by omega) (by rw [e1, e2, hne, he])
      · rw [ite_t (by simp only [bne_iff_ne]; exact hne), gd_pos (by omega), gd_pos (by omega), gd_pos (by omega), gd_pos (by omega)]
        by_cases hlt : u.getD j 0 < v.getD j 0
        · rw [ite_t (by simp only [decide_eq_true_eq]; exact hlt), cmpN_lt]
          rw [s1, s2]
          exact mul_pow_lt l1 (by omega)
        · rw [ite_f (by simp only [decide_eq_false_iff_not]; exact hlt), cmpN_gt]
          rw [s1, s2]
          exact mul_pow_lt l2 (by omega)
theorem E_mono {x y : Nat} (h : x ≤ y) : (nE x).length ≤ (nE y).length := (E_len _ _).2 (Nat.lt_of_le_of_lt h ((E_len _ _).1 (Nat.le_refl _)))
theorem rCmp_is {n : Nat} (hn : 18446744073709551616 ≤ n) {x y : Nat} (ha : (nE x).length ≤ 1000000) (hb : (nE y).length ≤ 1000000) : rCmp n (nE x) (nE y) = some (cmpN x y) := by
  unfold rCmp
  by_cases h : (nE x).length < (nE y).length
  · rw [ite_t (by simp <;> omega), ite_t (by simp <;> omega), cmpN_lt]
    refine Nat.lt_of_not_le fun h' => ?_
    have := E_mono h'; omega
  · by_cases h' : (nE y).length < (nE x).length
    · rw [ite_t (by simp <;> omega), ite_f (by simp <;> omega), cmpN_gt]
      refine Nat.lt_of_not_le fun h' => ?_
      have := E_mono h'; omega
    · rw [ite_f (by simp <;> omega), gd_pos (okI64 (by omega) (by omega))]
      have hl : (nE y).length = (nE x).length := by omega
      have := rCmp_l1_is n (nE x) (nE y) (E_dz x) (E_dz y) (nE x).length rfl hl (by omega) (nE x).length n (by omega) (by omega) (by
        rw [List.drop_of_length_le (by omega), List.drop_of_length_le (by omega)])
      rw [Z_E, Z_E] at this
      exact this
/-- a row that is the document's number -/
theorem rTo_l1_is {n : Nat} (hn : 18446744073709551616 ≤ n) (v : Nat) (ha : (nE v).length ≤ 100000) : ∀ (m i fu : Nat) (w : List UInt32), (nE v).length ≤ 2 * i + m → m < fu → 2 * i ≤ (nE v).length + 1 → w.length = i → nV w = nZ ((nE v).take (2 * i)) → (∀ h : w ≠ [], w.getLast h ≠ 0 ∨ 2 * i < (nE v).length) →
    rTo_l1 n (nE v) fu w (2 * (i : Int)) = some (nD v) := by
  have hE := E_dz v
  intro m
  induction m using Nat.strongRecOn with
  | _ m ih =>
    intro i fu w hi hf h2 hw he hlast
    cases fu with
    | zero => omega
    | succ fu =>
      by_cases hlt : 2 * i < (nE v).length
      · have g1 := hE.get (2 * i)
        have g2 := hE.get (2 * i + 1)
        have e0 : (2 * (i : Int)).toNat = 2 * i := by omega
        have e1 : (2 * (i : Int) + 1).toNat = 2 * i + 1 := by omega
        have k1 := Z_take (nE v) (2 * i) hlt
        rw [rTo_l1, ite_t (by simp <;> omega), gd_pos (by omega), gd_pos (by omega), gd_pos (okI64 (by omega) (by omega)), e0, e1]
        by_cases hlt2 : 2 * i + 1 < (nE v).length
        · have k2 := Z_take (nE v) (2 * i + 1) hlt2
          rw [ite_t (by simp <;> omega), gd_pos (okI64 (by omega) (by omega)), gd_pos (by omega), gd_pos (by omega)]
          unfold rTo_j1
          rw [gd_pos (by unfold rmB; omega), gd_pos (okI64 (by omega) (by omega)), show 2 * (i : Int) + 2 = 2 * ((i + 1 : Nat) : Int) by omega]
          have ex : (UInt32.ofInt ((nE v).getD (2 * i) 0) + UInt32.ofInt ((nE v).getD (2 * i + 1) 0) * 65536).toNat = ((nE v).getD (2 * i) 0).toNat + 65536 * ((nE v).getD (2 * i + 1) 0).toNat := by
            rw [UInt32.toNat_add, UInt32.toNat_mul, ofInt32, ofInt32]
            show (_ + _ * 65536 % _) % _ = _
            omega
          refine ih (m - 1) (by omega) (i + 1) fu _ (by omega) (by omega) (by omega) (by simp <;> omega) ?_ ?_
          · rw [V_app, V_cons, V_nil, ex, he, show 2 * (i + 1) = 2 * i + 1 + 1 by omega, k2, k1, hw, Nat.pow_succ, Nat.pow_mul]
            show _ + 4294967296 ^ i * _ = _ + 4294967296 ^ i * _ + 4294967296 ^ i * 65536 * _
            generalize 4294967296 ^ i = p
            grind
          · intro _
            by_cases h3 : 2 * (i + 1) < (nE v).length
            · exact .inr h3
            · left
              rw [List.getLast_concat]
              intro h0
              have h0 := ex.symm.trans (congrArg UInt32.toNat h0)
              have hv0 : nE v ≠ [] := by intro h; rw [h] at hlt; simp at hlt
              have hv1 : v ≠ 0 := by rintro rfl; exact hv0 E_zero
              have h5 : (nE v).getD (2 * i + 1) 0 = 0 := by
                rw [UInt32.toNat_zero] at h0; omega
              have h6 := zpos (l := nE v) (by omega)
              rw [Z_E, show (nE v).length - 1 = 2 * i + 1 by omega, h5] at h6
              have h7 := Z_lt (hE.take (2 * i + 1))
              rw [List.length_take, Nat.min_eq_left (by omega)] at h7
              have := (E_len v (2 * i + 1)).2 (by simp at h6; omega)
              omega
        · rw [ite_f (by simp <;> omega)]
          unfold rTo_j1
          rw [gd_pos (by unfold rmB; omega), gd_pos (okI64 (by omega) (by omega)), show 2 * (i : Int) + 2 = 2 * ((i + 1 : Nat) : Int) by omega]
          have ex : (UInt32.ofInt ((nE v).getD (2 * i) 0)).toNat = ((nE v).getD (2 * i) 0).toNat := by
            rw [ofInt32]; omega
          refine ih (m - 1) (by omega) (i + 1) fu _ (by omega) (by omega) (by omega) (by simp <;> omega) ?_ ?_
          · rw [V_app, V_cons, V_nil, ex, he, List.take_of_length_le (l := nE v) (i := 2 * (i + 1)) (by omega), hw]
            rw [List.take_of_length_le (l := nE v) (i := 2 * i + 1) (by omega), Nat.pow_mul] at k1
            rw [k1]
            show _ + 4294967296 ^ i * _ = _ + 4294967296 ^ i * _
            simp
          · intro _
            left
            rw [List.getLast_concat]
            intro h0
            have h0 := ex.symm.trans (congrArg UInt32.toNat h0)
            have h5 : (nE v).getD (2 * i) 0 = 0 := by
              rw [UInt32.toNat_zero] at h0; omega
            have h6 := zpos (l := nE v) (by omega)
            rw [Z_E, show (nE v).length - 1 = 2 * i by omega, h5] at h6
            have h7 := Z_lt (hE.take (2 * i))
            rw [List.length_take, Nat.min_eq_left (by omega)] at h7
            have := (E_len v (2 * i)).2 (by simp at h6; omega)
            omega
      · rw [rTo_l1, ite_f (by simp <;> omega)]
        rw [List.take_of_length_le (by omega), Z_E] at he
        rw [← he, D_V (fun h => (hlast h).elim id (fun h' => absurd h' hlt))]
theorem rTo_is {n : Nat} (hn : 18446744073709551616 ≤ n) {v : Nat} (ha : (nE v).length ≤ 100000) : rTo n (nE v) = some (nD v) :=
  rTo_l1_is hn v ha (nE v).length 0 n [] (by omega) (by omega) (by omega) rfl rfl (fun h => absurd rfl h)
theorem same_l1 (f : Nat → Int → Option Bool) (a b : List UInt32) (hl : b.length = a.length) (ha : a.length ≤ 1000000)
    (hf : ∀ fu i, f (fu + 1) i = bif (decide (i < ((a.length : Nat) : Int))) then gd (0 ≤ i) (gd (i < ((a.length : Nat) : Int)) (gd (0 ≤ i) (gd (i < ((b.length : Nat) : Int)) (bif ((a.getD i.toNat 0) != (b.getD i.toNat 0)) then some false else gd (okI .i64 (i + 1)) (f fu (i + 1)))))) else some true) :
    ∀ (m i fu : Nat), i + m = a.length → m < fu → a.take i = b.take i → f fu (i : Int) = some (decide (a = b)) := by
  intro m
  induction m with
  | zero =>
    intro i fu hi hfu he
    cases fu with
    | zero => omega
    | succ fu =>
      rw [List.take_of_length_le (by omega), List.take_of_length_le (by omega)] at he
      rw [hf, ite_f (by simp <;> omega)]; simp [he]
  | succ m ih =>
    intro i fu hi hfu he
    cases fu with
    | zero => omega
    | succ fu =>
      rw [hf, ite_t (by simp <;> omega), gd_pos (by omega), gd_pos (by omega), gd_pos (by omega), gd_pos (by omega), Int.toNat_natCast]
      by_cases h : a.getD i 0 = b.getD i 0
      · rw [ite_f (by rw [h]; simp), gd_pos (okI64 (by omega) (by omega))]
        refine ih (i + 1) fu (by omega) (by omega) ?_
        rw [List.take_succ_eq_append_getElem (by omega), List.take_succ_eq_append_getElem (by omega), he]
        rw [List.getD_eq_getElem?_getD, List.getD_eq_getElem?_getD, List.getElem?_eq_getElem (by omega), List.getElem?_eq_getElem (by omega)] at h
        simp only [Option.getD_some] at h
        rw [h]
      · rw [ite_t (by simp only [bne_iff_ne]; exact h)]
        have : a ≠ b := fun e => h (by rw [e])
        simp [this]
theorem rSame_is {n : Nat} (hn : 18446744073709551616 ≤ n) {a : List UInt32} {v : Nat} (ha : a.length ≤ 1000000) (hv : (nE v).length ≤ 100000) : rSame n a (nE v) = some (decide (a = nD v)) := by
  unfold rSame
  rw [rTo_is hn hv]
  simp only [Option.bind_some]
  by_cases h : a.length = (nD v).length
  · rw [ite_f (by rw [h]; simp)]
    exact same_l1 (rSame_l1 n a (nD v)) a (nD v) h.symm ha (fun _ _ => rfl) a.length 0 n (by omega) (by omega) rfl
  · have : a ≠ nD v := fun e => h (by rw [e])
    rw [ite_t (by simp only [bne_iff_ne]; omega)]; simp [this]
theorem ppos (i : Nat) : 0 < 65536 ^ i := Nat.pow_pos (by decide)
theorem pow6 (i : Nat) : 65536 ^ (i + 1) = 65536 * 65536 ^ i := by rw [Nat.pow_succ, Nat.mul_comm]
theorem Z_take' (l : List Int) (i : Nat) : nZ (l.take (i + 1)) = nZ (l.take i) + 65536 ^ i * (l.getD i 0).toNat := by
  by_cases h : i < l.length
  · exact Z_take l i h
  · rw [List.take_of_length_le (by omega), List.take_of_length_le (by omega), List.getD_eq_getElem?_getD, List.getElem?_eq_none (by omega)]; simp
theorem tmodN (t : Nat) : Int.tmod (t : Int) 65536 = ((t % 65536 : Nat) : Int) := by rw [Int.tmod_eq_emod_of_nonneg (by omega)]; omega
theorem tdivN (t : Nat) : Int.tdiv (t : Int) 65536 = ((t / 65536 : Nat) : Int) := by rw [Int.tdiv_eq_ediv_of_nonneg (by omega)]; omega
theorem Dz.nat {l : List Int} (h : Dz l) (i : Nat) : l.getD i 0 = (((l.getD i 0).toNat : Nat) : Int) ∧ (l.getD i 0).toNat < 65536 := by
  have := h.get i; omega
theorem trim_is {n : Nat} (hn : 18446744073709551616 ≤ n) {a : List Int} (hd : Dz a) (ha : a.length ≤ 1000000) : ((rtrim n a).bind fun r => some (((a.drop 0).take r.2), r.2)) = some (nE (nZ a), (nE (nZ a)).length) := by
  obtain ⟨h1, h2⟩ := rtrim_is hn hd ha
  rw [h1]
  simp only [Option.bind_some]
  rw [h2]
theorem rAdd_l1_is {n : Nat} (hn : 18446744073709551616 ≤ n) (a b : List Int) (hda : Dz a) (hdb : Dz b) (ha : a.length ≤ 900000) (hb : b.length ≤ 900000) : ∀ (m i fu : Nat) (z : List Int) (c : Nat), max a.length b.length + 1 ≤ i + m → i ≤ max a.length b.length + 1 → m < fu → z.length = i → Dz z → c ≤ 1 → (max a.length b.length < i → c = 0) → nZ z + 65536 ^ i * c = nZ (a.take i) + nZ (b.take i) →
    rAdd_l1 n a b fu z (c : Int) (i : Int) = some (nE (nZ a + nZ b), (nE (nZ a + nZ b)).length) := by
  intro m
  induction m with
  | zero =>
    intro i fu z c h1 h2 hf hz hd hc hc0 he
    cases fu with
    | zero => omega
    | succ fu =>
      have h0 := hc0 (by omega)
      subst h0
      rw [rAdd_l1, ite_f (by simp <;> omega), ite_f (by simp <;> omega), ite_f (by simp)]
      rw [List.take_of_length_le (by omega), List.take_of_length_le (by omega)] at he
      rw [trim_is hn hd (by omega), show nZ z = nZ a + nZ b by omega]
  | succ m ih =>
    intro i fu z c h1 h2 hf hz hd hc hc0 he
    cases fu with
    | zero => omega
    | succ fu =>
      obtain ⟨ea, la⟩ := hda.nat i
      obtain ⟨eb, lb⟩ := hdb.nat i
      have body : i ≤ max a.length b.length → ((rdigit n a (i : Int)).bind fun r27_3 =>
          gd (okI .i64 ((c : Int) + r27_3)) <|
          (rdigit n b (i : Int)).bind fun r31_3 =>
          gd (okI .i64 (((c : Int) + r27_3) + r31_3)) <|
          gd ((65536 : Int) ≠ 0) <|
          gd (rmB (z.length + 1) 8) <|
          gd ((65536 : Int) ≠ 0) <|
          gd (okI .i64 (Int.tdiv (((c : Int) + r27_3) + r31_3) 65536)) <|
          gd (okI .i64 ((i : Int) + 1)) <|
          (rAdd_l1 n a b fu) (z ++ [(Int.tmod (((c : Int) + r27_3) + r31_3) 65536)]) (Int.tdiv (((c : Int) + r27_3) + r31_3) 65536) ((i : Int) + 1)) = some (nE (nZ a + nZ b), (nE (nZ a + nZ b)).length) := by
        intro hi
        rw [rdigit_is, rdigit_is, Option.bind_some, Option.bind_some, ea, eb, show (c : Int) + (((a.getD i 0).toNat : Nat) : Int) + (((b.getD i 0).toNat : Nat) : Int) = ((c + (a.getD i 0).toNat + (b.getD i 0).toNat : Nat) : Int) by omega, tmodN, tdivN]
        rw [gd_pos (okI64 (by omega) (by omega)), gd_pos (okI64 (by omega) (by omega)), gd_pos (by decide), gd_pos (by unfold rmB; omega), gd_pos (by decide), gd_pos (okI64 (by omega) (by omega)), gd_pos (okI64 (by omega) (by omega))]
        refine ih (i + 1) fu _ _ (by omega) (by omega) (by omega) (by rw [List.length_append, hz]; rfl) (hd.app (Dz.one ⟨by omega, by omega⟩)) (by omega) ?_ ?_
        · intro hgt
          have e1 : (a.getD i 0) = 0 := by rw [List.getD_eq_getElem?_getD, List.getElem?_eq_none (by omega)]; rfl
          have e2 : (b.getD i 0) = 0 := by rw [List.getD_eq_getElem?_getD, List.getElem?_eq_none (by omega)]; rfl
          rw [e1, e2]
          show (c + 0 + 0) / 65536 = 0
          omega
        · rw [Z_take', Z_take', Z_app, Z_cons, Z_nil, hz, pow6, Int.toNat_natCast]
          have hdm := Nat.mod_add_div (c + (a.getD i 0).toNat + (b.getD i 0).toNat) 65536
          generalize (c + (a.getD i 0).toNat + (b.getD i 0).toNat) % 65536 = x at *
          generalize (c + (a.getD i 0).toNat + (b.getD i 0).toNat) / 65536 = y at *
          generalize (a.getD i 0).toNat = f at *
          generalize (b.getD i 0).toNat = g at *
          generalize 65536 ^ i = p at *
          clear ih hc0
          have : p * (x + 65536 * y) = p * (c + f + g) := by rw [hdm]
          grind
      rw [rAdd_l1]
      by_cases k1 : i < a.length
      · rw [ite_t (by simp <;> omega)]; exact body (by omega)
      · rw [ite_f (by simp <;> omega)]
        by_cases k2 : i < b.length
        · rw [ite_t (by simp <;> omega)]; exact body (by omega)
        · rw [ite_f (by simp <;> omega)]
          by_cases k3 : 0 < c
          · rw [ite_t (by simp <;> omega)]; exact body (Nat.le_of_not_lt fun h => by have := hc0 h; omega)
          · rw [ite_f (by simp <;> omega)]
            rw [List.take_of_length_le (by omega), List.take_of_length_le (by omega), show c = 0 by omega, Nat.mul_zero, Nat.add_zero] at he
            rw [trim_is hn hd (by omega), he]
theorem rAdd_is {n : Nat} (hn : 18446744073709551616 ≤ n) {x y : Nat} (hx : (nE x).length ≤ 900000) (hy : (nE y).length ≤ 900000) : rAdd n (nE x) (nE y) = some (nE (x + y), (nE (x + y)).length) := by
  have := rAdd_l1_is hn (nE x) (nE y) (E_dz x) (E_dz y) hx hy (max (nE x).length (nE y).length + 1) 0 n [] 0 (by omega) (by omega) (by omega) rfl Dz.nil (by omega) (by omega) rfl
  rw [Z_E, Z_E] at this
  exact this
theorem rSub_l1_is {n : Nat} (hn : 18446744073709551616 ≤ n) (a b : List Int) (hda : Dz a) (hdb : Dz b) (ha : a.length ≤ 900000) (hb : b.length ≤ a.length) (hab : nZ b ≤ nZ a) : ∀ (m i fu : Nat) (z : List Int) (c : Nat), i + m = a.length → m < fu → z.length = i → Dz z → c ≤ 1 → nZ z + nZ (b.take i) = nZ (a.take i) + 65536 ^ i * c →
    rSub_l1 n a b fu z (c : Int) (i : Int) = some (nE (nZ a - nZ b), (nE (nZ a - nZ b)).length) := by
  intro m
  induction m with
  | zero =>
    intro i fu z c h1 hf hz hd hc he
    cases fu with
    | zero => omega
    | succ fu =>
      rw [rSub_l1, ite_f (by simp <;> omega)]
      rw [List.take_of_length_le (by omega), List.take_of_length_le (by omega)] at he
      have h2 := Z_lt hd
      rw [hz] at h2
      have h3 : nZ z = nZ a - nZ b := by
        cases c with
        | zero => omega
        | succ c =>
          obtain rfl : c = 0 := by omega
          omega
      rw [trim_is hn hd (by omega), h3]
  | succ m ih =>
    intro i fu z c h1 hf hz hd hc he
    cases fu with
    | zero => omega
    | succ fu =>
      obtain ⟨ea, la⟩ := hda.nat i
      obtain ⟨eb, lb⟩ := hdb.nat i
      rw [rSub_l1, ite_t (by simp <;> omega), gd_pos (by omega), gd_pos (by omega), rdigit_is, Option.bind_some, Int.toNat_natCast, ea, eb, gd_pos (okI64 (by omega) (by omega)), gd_pos (okI64 (by omega) (by omega))]
      generalize (a.getD i 0).toNat = x at *
      generalize hg : (b.getD i 0).toNat = y at *
      have step : ∀ (d c' : Nat), d < 65536 → c' ≤ 1 → d + y + c = x + 65536 * c' → rSub_j1 n a b z (i : Int) (rSub_l1 n a b fu) (c' : Int) (d : Int) = some (nE (nZ a - nZ b), (nE (nZ a - nZ b)).length) := by
        intro d c' hd1 hc1 h
        unfold rSub_j1
        rw [gd_pos (by unfold rmB; omega), gd_pos (okI64 (by omega) (by omega))]
        refine ih (i + 1) fu _ _ (by omega) (by omega) (by rw [List.length_append, hz]; rfl) (hd.app (Dz.one ⟨by omega, by omega⟩)) hc1 ?_
        rw [Z_take', Z_take', Z_app, Z_cons, Z_nil, hz, pow6, Int.toNat_natCast, hg, show (a.getD i 0).toNat = x by omega]
        generalize 65536 ^ i = p at *
        clear ih
        have : p * (d + y + c) = p * (x + 65536 * c') := by rw [h]
        grind
      by_cases hlt : x < y + c
      · rw [ite_t (by simp <;> omega), gd_pos (okI64 (by omega) (by omega)), show (x : Int) - (y : Int) - (c : Int) + 65536 = ((x + 65536 - y - c : Nat) : Int) by omega]
        exact step _ 1 (by omega) (by omega) (by omega)
      · rw [ite_f (by simp <;> omega), show (x : Int) - (y : Int) - (c : Int) = ((x - y - c : Nat) : Int) by omega]
        exact step _ 0 (by omega) (by omega) (by omega)
theorem rSub_is {n : Nat} (hn : 18446744073709551616 ≤ n) {x y : Nat} (hx : (nE x).length ≤ 900000) (hxy : y ≤ x) : rSub n (nE x) (nE y) = some (nE (x - y), (nE (x - y)).length) := by
  have := rSub_l1_is hn (nE x) (nE y) (E_dz x) (E_dz y) hx (E_mono hxy) (by rw [Z_E, Z_E]; exact hxy) (nE x).length 0 n [] 0 (by omega) (by omega) rfl Dz.nil (by omega) rfl
  rw [Z_E, Z_E] at this
  exact this
def Nzz (l : List Int) (i : Nat) : Prop := ∀ k, i ≤ k → l.getD k 0 = 0
theorem getD_repZ (n k : Nat) : (List.replicate n (0 : Int)).getD k 0 = 0 := by
  rw [List.getD_eq_getElem?_getD, List.getElem?_replicate]; split <;> rfl
theorem Nzz.set {l : List Int} {i : Nat} (h : Nzz l i) (x : Int) : Nzz (l.set i x) (i + 1) := by
  intro k hk
  rw [getD_set_ne _ _ (by omega)]; exact h k (by omega)
theorem Nzz.Z_set {l : List Int} {i : Nat} (h : Nzz l i) (x : Int) (hi : i < l.length) : nZ (l.set i x) = nZ l + 65536 ^ i * x.toNat := by
  have := Go.Sx.Z_set l i x hi
  rw [h i (by omega)] at this
  simpa using this
theorem rMul_l2_is (n : Nat) (a b : List Int) (hda : Dz a) (hdb : Dz b) (ha : a.length ≤ 900000) (hb : b.length ≤ 90000) (i : Nat) (hi : i < a.length) (K : List Int → Int → Option (List Int × Nat)) (v0 : Nat) :
    ∀ (m k fu : Nat) (w : List Int) (c : Nat), k + m = b.length → m < fu → w.length = a.length + b.length → Dz w → Nzz w (i + b.length) → nZ w + 65536 ^ (i + k) * c = v0 + 65536 ^ i * ((a.getD i 0).toNat * nZ (b.take k)) → c < 65536 →
    ∃ w' : List Int, w'.length = a.length + b.length ∧ Dz w' ∧ Nzz w' (i + 1 + b.length) ∧ nZ w' = v0 + 65536 ^ i * ((a.getD i 0).toNat * nZ b) ∧ rMul_l2 n a b (i : Int) K fu w (c : Int) (k : Int) = K w' ((i + 1 : Nat) : Int) := by
  intro m
  induction m with
  | zero =>
    intro k fu w c hk hf hw hd hz hv hc
    cases fu with
    | zero => omega
    | succ fu =>
      refine ⟨w.set (i + b.length) (c : Int), by rw [List.length_set]; exact hw, hd.set ⟨by omega, by omega⟩ _, ?_, ?_, ?_⟩
      · have := hz.set (c : Int)
        rwa [show i + b.length + 1 = i + 1 + b.length by omega] at this
      · rw [hz.Z_set _ (by omega), Int.toNat_natCast]
        rwa [List.take_of_length_le (by omega), show k = b.length by omega] at hv
      · rw [rMul_l2, ite_f (by simp <;> omega), gd_pos (okI64 (by omega) (by omega)), gd_pos (by omega), gd_pos (by omega), gd_pos (okI64 (by omega) (by omega))]
        rw [show ((i : Int) + (b.length : Nat)).toNat = i + b.length by omega]; rfl
  | succ m ih =>
    intro k fu w c hk hf hw hd hz hv hc
    cases fu with
    | zero => omega
    | succ fu =>
      have e1 : ((i : Int) + (k : Nat)).toNat = i + k := by omega
      obtain ⟨ea, la⟩ := hda.nat i
      obtain ⟨eb, lb⟩ := hdb.nat k
      obtain ⟨ew, lw⟩ := hd.nat (i + k)
      have hAB : (a.getD i 0).toNat * (b.getD k 0).toNat ≤ 65535 * 65535 := Nat.mul_le_mul (by omega) (by omega)
      have hV := Z_set w (i + k) (((c + (a.getD i 0).toNat * (b.getD k 0).toNat + (w.getD (i + k) 0).toNat) % 65536 : Nat) : Int) (by omega)
      rw [rMul_l2, ite_t (by simp <;> omega)]
      rw [e1, Int.toNat_natCast, Int.toNat_natCast, ea, eb, ew, ← Int.natCast_mul]
      generalize (a.getD i 0).toNat = x at *
      generalize hy : (b.getD k 0).toNat = y at *
      generalize (w.getD (i + k) 0).toNat = f at *
      rw [show (c : Int) + ((x * y : Nat) : Int) = ((c + x * y : Nat) : Int) by omega, show ((c + x * y : Nat) : Int) + (f : Int) = ((c + x * y + f : Nat) : Int) by omega, tmodN, tdivN]
      rw [gd_pos (by omega), gd_pos (by omega), gd_pos (by omega), gd_pos (by omega), gd_pos (okI64 (by omega) (by omega)), gd_pos (okI64 (by omega) (by omega)), gd_pos (okI64 (by omega) (by omega)), gd_pos (by omega), gd_pos (by omega), gd_pos (okI64 (by omega) (by omega)), gd_pos (okI64 (by omega) (by omega)), gd_pos (by decide), gd_pos (by omega), gd_pos (by omega), gd_pos (by decide), gd_pos (okI64 (by omega) (by omega)), gd_pos (okI64 (by omega) (by omega))]
      refine ih (k + 1) fu _ _ (by omega) (by omega) (by rw [List.length_set]; exact hw) (hd.set ⟨by omega, by omega⟩ _) ?_ ?_ (by omega)
      · intro q hq
        rw [getD_set_ne _ _ (by omega)]; exact hz q hq
      · rw [Z_take', show i + (k + 1) = (i + k) + 1 by omega, pow6, hy]
        rw [Int.toNat_natCast] at hV
        rw [Nat.pow_add] at *
        have hdm := Nat.mod_add_div (c + x * y + f) 65536
        generalize (c + x * y + f) % 65536 = s at *
        generalize (c + x * y + f) / 65536 = t at *
        generalize 65536 ^ i = p at *
        generalize 65536 ^ k = q at *
        clear hAB ih
        have : p * q * (s + 65536 * t) = p * q * (c + x * y + f) := by rw [hdm]
        grind
theorem rMul_l1_is {n : Nat} (hn : 18446744073709551616 ≤ n) (a b : List Int) (hda : Dz a) (hdb : Dz b) (ha : a.length ≤ 900000) (hb : b.length ≤ 90000) :
    ∀ (m i fu : Nat) (w : List Int), i + m = a.length → m < fu → w.length = a.length + b.length → Dz w → Nzz w (i + b.length) → nZ w = nZ (a.take i) * nZ b →
    rMul_l1 n a b fu w (i : Int) = some (nE (nZ a * nZ b), (nE (nZ a * nZ b)).length) := by
  intro m
  induction m with
  | zero =>
    intro i fu w hi hf hw hd hz hv
    cases fu with
    | zero => omega
    | succ fu =>
      rw [List.take_of_length_le (by omega)] at hv
      rw [rMul_l1, ite_f (by simp <;> omega), trim_is hn hd (by omega), hv]
  | succ m ih =>
    intro i fu w hi hf hw hd hz hv
    cases fu with
    | zero => omega
    | succ fu =>
      rw [rMul_l1, ite_t (by simp <;> omega)]
      obtain ⟨w', h1, hd', h2, h3, h4⟩ := rMul_l2_is n a b hda hdb ha hb i (by omega) (rMul_l1 n a b fu) (nZ w) b.length 0 n w 0 (by omega) (by omega) hw hd hz (by simp [Z_nil]) (by decide)
      have h4' : rMul_l2 n a b (i : Int) (rMul_l1 n a b fu) n w 0 0 = _ := h4
      rw [h4']
      refine ih (i + 1) fu w' (by omega) (by omega) h1 hd' h2 ?_
      rw [h3, hv, Z_take']; grind
theorem rMul_is' {n : Nat} (hn : 18446744073709551616 ≤ n) {a b : List Int} (hda : Dz a) (hdb : Dz b) (ha : a.length ≤ 90000) (hb : b.length ≤ 90000) : rMul n a b = some (nE (nZ a * nZ b), (nE (nZ a * nZ b)).length) := by
  unfold rMul
  rw [gd_pos (okI64 (by omega) (by omega)), gd_pos (by omega), gd_pos (by trivial), gd_pos (by unfold rmB; omega)]
  refine rMul_l1_is hn a b hda hdb (by omega) hb a.length 0 n _ (by omega) (by omega) (by simp <;> omega) (Dz.rep _) ?_ (by simp [Z_rep, Z_nil])
  intro k _
  exact getD_repZ _ _
theorem rMul_is {n : Nat} (hn : 18446744073709551616 ≤ n) {x y : Nat} (hx : (nE x).length ≤ 90000) (hy : (nE y).length ≤ 90000) : rMul n (nE x) (nE y) = some (nE (x * y), (nE (x * y)).length) := by
  have := rMul_is' hn (E_dz x) (E_dz y) hx hy
  rwa [Z_E, Z_E] at this
theorem E_last {y : Nat} (hy : y ≠ 0) : (nE y).length ≠ 0 ∧ ((nE y).getD ((nE y).length - 1) 0).toNat ≠ 0 := by
  have h1 : (nE y).length ≠ 0 := fun h => by
    have := (E_len y 0).1 (by omega)
    simp at this; omega
  refine ⟨h1, fun h => ?_⟩
  have h2 := zpos h1
  rw [h, Z_E] at h2
  have h3 := Z_lt ((E_dz y).take ((nE y).length - 1))
  rw [List.length_take, Nat.min_eq_left (by omega)] at h3
  have := (E_len y ((nE y).length - 1)).2 (by omega)
  omega
theorem tdivNN (a b : Nat) : Int.tdiv (a : Int) (b : Int) = ((a / b : Nat) : Int) := by rw [Int.tdiv_eq_ediv_of_nonneg (by omega)]; rfl
theorem rfit_j1_is (n d : Nat) (x y : Nat) (h1 : d * y ≤ x) (hxy : y ≤ x) : ∃ q : Nat, rfit_j1 n (d : Int) = some (q : Int) ∧ 1 ≤ q ∧ q * y ≤ x := by
  unfold rfit_j1
  by_cases h : d = 0
  · subst h
    exact ⟨1, by rw [ite_t (by rfl)]; rfl, Nat.le_refl _, by omega⟩
  · exact ⟨d, by rw [ite_f (by simp <;> omega)], by omega, h1⟩
theorem digs2 (x : Nat) : x % 65536 + 65536 * (x / 65536) = x := Nat.mod_add_div x 65536
theorem top_div {p N x d y vl : Nat} (hp : 0 < p) (hy : y < (N + 1) * p) (hd : d * (N + 1) ≤ x / p) : d * y ≤ x := by
  have h1 : d * y ≤ d * ((N + 1) * p) := Nat.mul_le_mul_left d (by omega)
  have h2 := Nat.mul_le_mul_right p hd
  have h3 := Nat.div_mul_le_self x p
  rw [Nat.mul_assoc] at h2
  omega
theorem rfit_is {n : Nat} {x y : Nat} (hy : y ≠ 0) (hl : (nE y).length ≤ 100000) (hxy : y ≤ x) (hx : x < 65536 * y) : ∃ q : Nat, rfit n (nE x) (nE y) = some (q : Int) ∧ 1 ≤ q ∧ q * y ≤ x := by
  obtain ⟨h0, hlast⟩ := E_last hy
  have hyl := (E_len y (nE y).length).1 (Nat.le_refl _)
  unfold rfit
  by_cases h1 : (nE y).length = 1
  · rw [h1] at hyl
    have ey : (nE y).getD 0 0 = ((y : Nat) : Int) := by rw [E_get]; congr 1; omega
    have r1 : rdigit n (nE x) 1 = some ((nE x).getD 1 0) := rdigit_is n (nE x) 1
    have r0 : rdigit n (nE x) 0 = some ((nE x).getD 0 0) := rdigit_is n (nE x) 0
    rw [ite_t (by simp <;> omega), r1, Option.bind_some, r0, Option.bind_some]
    have e1 : (nE x).getD 1 0 = ((x / 65536 : Nat) : Int) := by rw [E_get]; congr 1; omega
    have e0 : (nE x).getD 0 0 = ((x % 65536 : Nat) : Int) := by rw [E_get]; congr 1; omega
    have ex : ((x / 65536 : Nat) : Int) * 65536 + ((x % 65536 : Nat) : Int) = (x : Int) := by omega
    have hdiv : x / y ≤ x := Nat.div_le_self x y
    have hdm := Nat.div_mul_le_self x y
    rw [e1, e0, ex, ey, tdivNN]
    generalize x / y = q at hdiv hdm ⊢
    rw [gd_pos (okI64 (by omega) (by omega)), gd_pos (okI64 (by omega) (by omega)), gd_pos (by omega), gd_pos (by omega), gd_pos (by omega), gd_pos (okI64 (by omega) (by omega))]
    exact rfit_j1_is n q x y hdm hxy
  · rw [ite_f (by simp <;> omega)]
    obtain ⟨k, hk⟩ : ∃ k, (nE y).length = k + 2 := ⟨(nE y).length - 2, by omega⟩
    have i1 : (((nE y).length : Nat) : Int) - 1 = ((k + 1 : Nat) : Int) := by omega
    have i2 : (((nE y).length : Nat) : Int) - 2 = ((k : Nat) : Int) := by omega
    rw [i1, i2, rdigit_is, Option.bind_some, rdigit_is, Option.bind_some, rdigit_is, Option.bind_some, Int.toNat_natCast, Int.toNat_natCast, hk]
    rw [hk] at hyl
    have hp := ppos k
    have hp1 : 65536 ^ (k + 1) = 65536 ^ k * 65536 := Nat.pow_succ ..
    have hp2 : 65536 ^ (k + 2) = 65536 ^ k * (65536 * 65536) := by rw [Nat.pow_add]
    have hX : x / 65536 ^ k < 65536 * 65536 * 65536 := by
      rw [Nat.div_lt_iff_lt_mul hp]
      have : 65536 * 65536 * 65536 * 65536 ^ k = 65536 * 65536 ^ (k + 2) := by rw [hp2]; grind
      omega
    have hY : y / 65536 ^ k < 65536 * 65536 := by
      rw [Nat.div_lt_iff_lt_mul hp]
      have : 65536 * 65536 * 65536 ^ k = 65536 ^ (k + 2) := by rw [hp2]; grind
      omega
    have hx2 : x / 65536 ^ (k + 2) % 65536 = x / 65536 ^ k / (65536 * 65536) % 65536 := by rw [hp2, Nat.div_div_eq_div_mul]
    have hx1 : x / 65536 ^ (k + 1) % 65536 = x / 65536 ^ k / 65536 % 65536 := by rw [hp1, Nat.div_div_eq_div_mul]
    have hy1 : y / 65536 ^ (k + 1) % 65536 = y / 65536 ^ k / 65536 % 65536 := by rw [hp1, Nat.div_div_eq_div_mul]
    rw [E_get x, E_get x, E_get x, E_get y, E_get y, hx2, hx1, hy1]
    have hyp : y < (y / 65536 ^ k + 1) * 65536 ^ k := by
      rw [Nat.add_mul, Nat.one_mul]
      have := Nat.mod_add_div y (65536 ^ k)
      have h := Nat.mod_lt y hp
      rw [Nat.mul_comm] at this; omega
    generalize hX' : x / 65536 ^ k = X at *
    generalize hY' : y / 65536 ^ k = Y at *
    have a1 : ((X / (65536 * 65536) % 65536 : Nat) : Int) * 65536 + ((X / 65536 % 65536 : Nat) : Int) = ((X / 65536 : Nat) : Int) := by omega
    have a2 : ((X / 65536 : Nat) : Int) * 65536 + ((X % 65536 : Nat) : Int) = (X : Int) := by omega
    have a3 : ((Y / 65536 % 65536 : Nat) : Int) * 65536 + ((Y % 65536 : Nat) : Int) = (Y : Int) := by omega
    have a4 : (Y : Int) + 1 = ((Y + 1 : Nat) : Int) := by omega
    have hdl : X / (Y + 1) ≤ X := Nat.div_le_self _ _
    have hdm := Nat.div_mul_le_self X (Y + 1)
    rw [a1, a2, a3, a4, tdivNN]
    generalize X / (Y + 1) = q at hdl hdm ⊢
    rw [gd_pos (okI64 (by omega) (by omega)), gd_pos (okI64 (by omega) (by omega)), gd_pos (okI64 (by omega) (by omega)), gd_pos (okI64 (by omega) (by omega)), gd_pos (okI64 (by omega) (by omega)), gd_pos (okI64 (by omega) (by omega)), gd_pos (okI64 (by omega) (by omega)), gd_pos (okI64 (by omega) (by omega)), gd_pos (by omega), gd_pos (by omega), gd_pos (okI64 (by omega) (by omega)), gd_pos (okI64 (by omega) (by omega)), gd_pos (by omega), gd_pos (by omega), gd_pos (okI64 (by omega) (by omega)), gd_pos (okI64 (by omega) (by omega)), gd_pos (by omega)]
    refine rfit_j1_is n q x y (top_div (vl := 0) hp hyp ?_) hxy
    rw [hX']
    exact hdm
theorem E_one {d : Nat} (h : d < 65536) (h0 : d ≠ 0) : nE d = [(d : Int)] := by
  have := E_Z (l := [(d : Int)]) (Dz.one ⟨by omega, by omega⟩) (by simp; omega)
  rwa [show nZ [(d : Int)] = d by rw [Z_cons, Z_nil, Int.toNat_natCast]; omega] at this
theorem rDiv_l2_is {n : Nat} (hn : 18446744073709551616 ≤ n) (a : List Int) (y : Nat) (hy : y ≠ 0) (hyl : (nE y).length ≤ 10000) (ha : a.length ≤ 10000) (i : Nat) (hi : i < a.length) (K : List Int → List Int → Nat → Int → Option (List Int × Nat × List Int × Nat)) (v0 r0 : Nat) (hr0 : r0 < 65536 * y) :
    ∀ (m fu : Nat) (q : List Int) (r : Nat), r < (m + 1) * y → m < fu → m ≤ 65536 → q.length = a.length → Dz q → (q.getD i 0).toNat * y + r = r0 → nZ q * y + 65536 ^ i * r = v0 →
    ∃ (q' : List Int) (r' : Nat), q'.length = a.length ∧ Dz q' ∧ r' < y ∧ nZ q' * y + 65536 ^ i * r' = v0 ∧ (∀ k, k ≠ i → q'.getD k 0 = q.getD k 0) ∧ rDiv_l2 n a (nE y) (i : Int) K fu q (nE r) (nE r).length = K q' (nE r') (nE r').length ((i : Int) - 1) := by
  intro m
  induction m with
  | zero =>
    intro fu q r hr hf hm hq hd h1 h2
    cases fu with
    | zero => omega
    | succ fu =>
      have hry : r < y := by omega
      have hrl := E_mono (Nat.le_of_lt hry)
      refine ⟨q, r, hq, hd, hry, h2, fun _ _ => rfl, ?_⟩
      rw [rDiv_l2, rCmp_is hn (by omega) (by omega)]
      simp only [Option.bind_some]
      rw [cmpN_lt hry, ite_f (by decide), gd_pos (okI64 (by omega) (by omega))]
  | succ m ih =>
    intro fu q r hr hf hm hq hd h1 h2
    cases fu with
    | zero => omega
    | succ fu =>
      have hr65 : r < 65536 * y := by have := Nat.zero_le ((q.getD i 0).toNat * y); omega
      have hrl : (nE r).length ≤ (nE y).length + 1 := by
        rw [E_len, pow6]
        have := (E_len y (nE y).length).1 (Nat.le_refl _)
        omega
      rw [rDiv_l2, rCmp_is hn (by omega) (by omega)]
      simp only [Option.bind_some]
      by_cases hry : r < y
      · refine ⟨q, r, hq, hd, hry, h2, fun _ _ => rfl, ?_⟩
        rw [cmpN_lt hry, ite_f (by decide), gd_pos (okI64 (by omega) (by omega))]
      · obtain ⟨d, hd1, hd2, hd3⟩ := rfit_is (n := n) (x := r) hy (by omega) (Nat.le_of_not_lt hry) hr65
        obtain ⟨eq, lq⟩ := hd.nat i
        have hd4 : d < 65536 := by
          refine Nat.lt_of_mul_lt_mul_right (a := y) ?_
          omega
        have hsum : ((q.getD i 0).toNat + d) * y + (r - d * y) = r0 := by rw [Nat.add_mul]; omega
        have hd5 : (q.getD i 0).toNat + d < 65536 := by
          refine Nat.lt_of_mul_lt_mul_right (a := y) ?_
          omega
        have hV := Z_set q i (((q.getD i 0).toNat + d : Nat) : Int) (by omega)
        rw [ite_t (by simp only [decide_eq_true_eq]; refine Int.not_lt.1 fun h' => ?_; rw [cmpN_neg] at h'; omega), hd1]
        simp only [Option.bind_some]
        have hml := E_one hd4 (by omega)
        rw [gd_pos (by omega), gd_pos (by omega), gd_pos (okI64 (by rw [Int.toNat_natCast, eq]; omega) (by rw [Int.toNat_natCast, eq]; omega)), gd_pos (by omega), gd_pos (by omega), ← hml, rMul_is hn (by omega) (by rw [hml]; simp)]
        simp only [Option.bind_some]
        rw [Nat.mul_comm y d, rSub_is hn (by omega) hd3]
        simp only [Option.bind_some]
        rw [Int.toNat_natCast]
        generalize hx : (q.getD i 0).toNat = x at *
        rw [eq, show (x : Int) + (d : Int) = ((x + d : Nat) : Int) by omega]
        obtain ⟨q', r', k1, k2, k3, k4, k5, k6⟩ := ih fu (q.set i ((x + d : Nat) : Int)) (r - d * y) (by
          have : (m + 1 + 1) * y = (m + 1) * y + y := Nat.succ_mul _ _
          have : y ≤ d * y := Nat.le_mul_of_pos_left y hd2
          omega) (by omega) (by omega) (by rw [List.length_set]; exact hq) (hd.set ⟨by omega, by omega⟩ _) (by rw [getD_set_eq _ _ (by omega), Int.toNat_natCast]; exact hsum) (by
          rw [Int.toNat_natCast] at hV
          obtain ⟨r, rfl⟩ : ∃ t, r = t + d * y := ⟨r - d * y, by omega⟩
          rw [Nat.add_sub_cancel, ← h2]
          generalize 65536 ^ i = p at *
          have : nZ (q.set i ((x + d : Nat) : Int)) = nZ q + p * d := by
            rw [Nat.mul_add] at hV; omega
          rw [this]; grind)
        exact ⟨q', r', k1, k2, k3, k4, fun k hk => by rw [k5 k hk, getD_set_ne _ _ (by omega)], k6⟩
theorem rDiv_l1_is {n : Nat} (hn : 18446744073709551616 ≤ n) (a : List Int) (y : Nat) (hda : Dz a) (hy : y ≠ 0) (hyl : (nE y).length ≤ 10000) (ha : a.length ≤ 10000) :
    ∀ (j fu : Nat) (q : List Int) (r : Nat), j < fu → j ≤ a.length → q.length = a.length → Dz q → (∀ k, k < j → q.getD k 0 = 0) → r < y → nZ q * y + 65536 ^ j * r + nZ (a.take j) = nZ a →
    rDiv_l1 n a (nE y) fu q (nE r) (nE r).length ((j : Int) - 1) = some (nE (nZ a / y), (nE (nZ a / y)).length, nE (nZ a % y), (nE (nZ a % y)).length) := by
  intro j
  induction j with
  | zero =>
    intro fu q r hf hj hq hd hz hr he
    cases fu with
    | zero => omega
    | succ fu =>
      simp only [Nat.pow_zero, Nat.one_mul, List.take_zero, Z_nil, Nat.add_zero] at he
      obtain ⟨hq1, hq2⟩ := qr_of (W := nZ a) (V := y) (q := nZ q) (r := r) (by omega) hr
      obtain ⟨t1, t2⟩ := rtrim_is hn hd (by omega)
      rw [rDiv_l1, ite_f (by simp), t1, Option.bind_some, t2, hq1, ← hq2]
  | succ j ih =>
    intro fu q r hf hj hq hd hz hr he
    cases fu with
    | zero => omega
    | succ fu =>
      have hrl := E_mono (Nat.le_of_lt hr)
      obtain ⟨ea, la⟩ := hda.nat j
      have hZ : nZ ([a.getD j 0] ++ nE r) = (a.getD j 0).toNat + 65536 * r := by
        rw [Z_app, Z_cons, Z_nil, Z_E]; simp
      have hdz : Dz ([a.getD j 0] ++ nE r) := (Dz.one (hda.get j)).app (E_dz r)
      obtain ⟨t1, t2⟩ := rtrim_is hn hdz (by simp; omega)
      rw [hZ] at t1 t2
      rw [show ((j + 1 : Nat) : Int) - 1 = (j : Int) by omega, rDiv_l1, ite_t (by simp), gd_pos (by omega), gd_pos (by omega), gd_pos (by unfold rmB; omega), Int.toNat_natCast, t1, Option.bind_some, t2]
      have hr0 : (a.getD j 0).toNat + 65536 * r < 65536 * y := by omega
      obtain ⟨q', r', k1, k2, k3, k4, k5, k6⟩ := rDiv_l2_is hn a y hy hyl ha j (by omega) (rDiv_l1 n a (nE y) fu) (nZ q * y + 65536 ^ j * ((a.getD j 0).toNat + 65536 * r)) _ hr0 65535 n q ((a.getD j 0).toNat + 65536 * r) (by omega) (by omega) (by omega) hq hd (by rw [hz j (by omega)]; simp) rfl
      rw [k6]
      refine ih fu q' r' (by omega) (by omega) k1 k2 (fun k hk => by rw [k5 k (by omega)]; exact hz k (by omega)) k3 ?_
      rw [k4, ← he, Z_take', pow6]; grind
theorem rDiv_is {n : Nat} (hn : 18446744073709551616 ≤ n) {x y : Nat} (hx : (nE x).length ≤ 10000) (hyl : (nE y).length ≤ 10000) (hy : y ≠ 0) :
    rDiv n (nE x) (nE y) = some (nE (x / y), (nE (x / y)).length, nE (x % y), (nE (x % y)).length) := by
  unfold rDiv
  rw [gd_pos (by omega), gd_pos (by trivial), gd_pos (by unfold rmB; omega), gd_pos (okI64 (by omega) (by omega))]
  have := rDiv_l1_is hn (nE x) y (E_dz x) hy hyl hx (nE x).length n (List.replicate (nE x).length 0) 0 (by omega) (Nat.le_refl _) (by simp) (Dz.rep _) (fun k _ => getD_repZ _ _) (by omega) (by simp [Z_rep])
  rw [E_zero, Z_E] at this
  exact this
theorem rRest_is {n : Nat} (hn : 18446744073709551616 ≤ n) {x y : Nat} (hx : (nE x).length ≤ 10000) (hyl : (nE y).length ≤ 10000) (hy : y ≠ 0) :
    rRest n (nE x) (nE y) = some (nE (x % y), (nE (x % y)).length) := by
  unfold rRest
  rw [rDiv_is hn hx hyl hy]; rfl
theorem E_mul_len {x y k l : Nat} (hx : (nE x).length ≤ k) (hy : (nE y).length ≤ l) : (nE (x * y)).length ≤ k + l := by
  rw [E_len, Nat.pow_add]
  exact Nat.mul_lt_mul'' ((E_len x k).1 hx) ((E_len y l).1 hy)
theorem band1 (x : Nat) (h : x < 18446744073709551616) : bitI .and .i64 (x : Int) 1 = ((x % 2 : Nat) : Int) := by
  have e : (BitVec.ofInt 64 (x : Int) &&& BitVec.ofInt 64 1).toNat = x % 2 := by
    rw [BitVec.toNat_and]
    have e1 : (BitVec.ofInt 64 (x : Int)).toNat = x := by
      rw [BitVec.toNat_ofInt]; omega
    rw [e1]
    exact Nat.and_one_is_mod _
  show IntKind.i64.wrap (((BitVec.ofInt 64 (x : Int) &&& BitVec.ofInt 64 1).toNat : Nat) : Int) = _
  rw [e]
  exact okI64 (by omega) (by omega)
theorem bit_mod16 (x a r : Nat) (h : r < 16) : x / 2 ^ a % 65536 / 2 ^ r % 2 = x / 2 ^ (a + r) % 2 := by
  have e : (65536 : Nat) = 2 ^ r * (2 * 2 ^ (15 - r)) := by rw [show 2 * 2 ^ (15 - r) = 2 ^ (16 - r) by rw [Nat.mul_comm, ← Nat.pow_succ]; congr 1; omega, ← Nat.pow_add, show r + (16 - r) = 16 by omega]
  rw [e, Nat.mod_mul_right_div_self, Nat.div_div_eq_div_mul, ← Nat.pow_add, Nat.mod_mul_right_mod]
theorem rExp_l1_is {n : Nat} (hn : 18446744073709551616 ≤ n) (x e m : Nat) (lx : Nat) (hx : x < m) (he : (nE e).length ≤ 1000) (hm : (nE m).length ≤ 1000) :
    ∀ (j fu : Nat) (l : Nat), j < fu → j ≤ 16 * (nE e).length → l = (nE (x ^ (e / 2 ^ j) % m)).length →
    rExp_l1 n (nE e) (nE m) (nE x, lx) fu (nE (x ^ (e / 2 ^ j) % m)) l ((j : Int) - 1) = some (nE (x ^ e % m), (nE (x ^ e % m)).length) := by
  intro j
  induction j with
  | zero =>
    intro fu l hf hj hl
    cases fu with
    | zero => omega
    | succ fu => rw [rExp_l1, ite_f (by simp), hl]; simp
  | succ j ih =>
    intro fu l hf hj hl
    cases fu with
    | zero => omega
    | succ fu =>
      have hml := fun y => E_mono (Nat.le_of_lt (Nat.mod_lt y (show m > 0 by omega)))
      have hxl := E_mono (Nat.le_of_lt hx)
      have t1 : Int.tdiv (j : Int) 16 = ((j / 16 : Nat) : Int) := by rw [Int.tdiv_eq_ediv_of_nonneg (by omega)]; omega
      have t2 : Int.tmod (j : Int) 16 = ((j % 16 : Nat) : Int) := by rw [Int.tmod_eq_emod_of_nonneg (by omega)]; omega
      obtain ⟨p1, p2⟩ := pow_step x m (e / 2 ^ (j + 1)) 0
      have h1 := hml (x ^ (e / 2 ^ (j + 1)))
      have h2 := E_mul_len h1 h1
      have h3 := hml (x ^ (2 * (e / 2 ^ (j + 1))))
      have h4 := E_mul_len h3 hxl
      rw [show ((j + 1 : Nat) : Int) - 1 = (j : Int) by omega, rExp_l1, ite_t (by simp), rMul_is hn (by omega) (by omega), Option.bind_some, rRest_is hn (by omega) (by omega) (by omega), Option.bind_some, p2]
      rw [t1, t2, gd_pos (by decide), gd_pos (okI64 (by omega) (by omega)), gd_pos (by omega), gd_pos (by omega), gd_pos (by decide), gd_pos (by omega), gd_pos (by show _ ≤ ((64 : Nat) : Int); omega), Int.toNat_natCast, Int.toNat_natCast, E_get]
      have hb : e / 65536 ^ (j / 16) % 65536 / 2 ^ (j % 16) % 2 = e / 2 ^ j % 2 := by
        rw [show (65536 : Nat) ^ (j / 16) = 2 ^ (16 * (j / 16)) by rw [Nat.pow_mul], bit_mod16 _ _ _ (by omega), show 16 * (j / 16) + j % 16 = j by omega]
      have hb2 : ((e / 65536 ^ (j / 16) % 65536 : Nat) : Int) / 2 ^ (j % 16) = ((e / 65536 ^ (j / 16) % 65536 / 2 ^ (j % 16) : Nat) : Int) := by
        rw [Int.natCast_ediv]; congr 1
      have hb3 : e / 65536 ^ (j / 16) % 65536 / 2 ^ (j % 16) < 18446744073709551616 := by
        have := Nat.div_le_self (e / 65536 ^ (j / 16) % 65536) (2 ^ (j % 16))
        omega
      rw [hb2, band1 _ hb3, hb]
      have hh := half e j
      by_cases hbit : e / 2 ^ j % 2 = 1
      · rw [ite_t (by rw [hbit]; rfl), rMul_is hn (by omega) (by omega), Option.bind_some, rRest_is hn (by omega) (by omega) (by omega), Option.bind_some]
        unfold rExp_j1
        rw [gd_pos (okI64 (by omega) (by omega)), ← p2, p1, show 2 * (e / 2 ^ (j + 1)) + 1 = e / 2 ^ j by omega]
        exact ih fu _ (by omega) (by omega) rfl
      · rw [ite_f (by simp only [beq_eq_false_iff_ne]; omega)]
        unfold rExp_j1
        rw [gd_pos (okI64 (by omega) (by omega)), show 2 * (e / 2 ^ (j + 1)) = e / 2 ^ j by omega]
        exact ih fu _ (by omega) (by omega) rfl
theorem rExp_is {n : Nat} (hn : 18446744073709551616 ≤ n) {a e m : Nat} (ha : (nE a).length ≤ 1000) (he : (nE e).length ≤ 1000) (hm : (nE m).length ≤ 1000) (h0 : m ≠ 0) :
    rExp n (nE a) (nE e) (nE m) = some (nE (a ^ e % m), (nE (a ^ e % m)).length) := by
  unfold rExp
  have hd := rRest_is hn (x := 1) (y := m) (by rw [E_one (by decide) (by decide)]; decide) (by omega) h0
  rw [E_one (d := 1) (by decide) (by decide)] at hd
  have hd' : rRest n [1] (nE m) = _ := hd
  rw [hd', Option.bind_some, rRest_is hn (by omega) (by omega) h0, Option.bind_some, gd_pos (okI64 (by omega) (by omega)), gd_pos (okI64 (by omega) (by omega))]
  have hz : e / 2 ^ (16 * (nE e).length) = 0 := by
    rw [Nat.div_eq_of_lt]
    have := (E_len e (nE e).length).1 (Nat.le_refl _)
    rw [Nat.pow_mul]; exact this
  have := rExp_l1_is hn (a % m) e m (nE (a % m)).length (Nat.mod_lt _ (by omega)) he hm (16 * (nE e).length) n (nE (1 % m)).length (by omega) (Nat.le_refl _) (by rw [hz, Nat.pow_zero])
  rw [hz, Nat.pow_zero, Int.natCast_mul, ← Nat.pow_mod] at this
  exact this
theorem rGcd_l1_is {n : Nat} (hn : 18446744073709551616 ≤ n) : ∀ (y x fu : Nat), y < fu → (nE x).length ≤ 1000 → (nE y).length ≤ 1000 →
    rGcd_l1 n fu (nE x) (nE x).length (nE y) (nE y).length = some (nE (Nat.gcd y x), (nE (Nat.gcd y x)).length) := by
  intro y
  induction y using Nat.strongRecOn with
  | _ y ih =>
    intro x fu hf hx hy
    cases fu with
    | zero => omega
    | succ fu =>
      by_cases h0 : y = 0
      · subst h0
        rw [rGcd_l1, ite_f (by rw [E_zero]; rfl), Nat.gcd_zero_left]
      · have hl := (E_last h0).1
        have hm := Nat.mod_lt x (show y > 0 by omega)
        have hml := E_mono (Nat.le_of_lt hm)
        rw [rGcd_l1, ite_t (by simp <;> omega), rRest_is hn (by omega) (by omega) h0, Option.bind_some, Nat.gcd_rec y x]
        exact ih _ hm y fu (by omega) hy (by omega)
theorem rGcd_is {n : Nat} (hn : 18446744073709551616 ≤ n) {x y : Nat} (hf : y < n) (hx : (nE x).length ≤ 1000) (hy : (nE y).length ≤ 1000) :
    rGcd n (nE x) (nE y) = some (nE (Nat.gcd y x), (nE (Nat.gcd y x)).length) := rGcd_l1_is hn y x n hf hx hy
theorem E2 (v : Nat) {k : Nat} (h : (nD v).length ≤ k) : (nE v).length ≤ 2 * k := by
  rw [E_len, Nat.pow_mul]; exact (D_len v k).1 h
theorem light_is (n : Nat) (a : List UInt32) : llight n a = some (decide (a.length ≤ 100)) := by
  unfold llight; congr 1; rw [Bool.eq_iff_iff]; simp only [decide_eq_true_eq]; omega
theorem D_add {x y k : Nat} (hx : (nD x).length ≤ k) (hy : (nD y).length ≤ k) : (nD (x + y)).length ≤ k + 1 := by
  rw [D_len, pow1]
  have h1 := (D_len x k).1 hx
  have h2 := (D_len y k).1 hy
  omega
theorem E_zero_iff {v : Nat} : (nE v).length = 0 ↔ v = 0 := ⟨fun h => Decidable.byContradiction fun hv => (E_last hv).1 h, fun h => by rw [h, E_zero]; rfl⟩
theorem D_zero_iff {v : Nat} : (nD v).length = 0 ↔ v = 0 := ⟨fun h => Decidable.byContradiction fun hv => (D_last hv).1 h, fun h => by rw [h, D_zero]; rfl⟩
/-- enough rounds for all -/
structure Fuel (n : Nat) : Prop where
  a : 18446744073709551616 ≤ n
  b : 4294967296 ^ 64 ≤ n
  up : lup n = some true
theorem cmp_same (x : Nat) : cmpN x x = 0 := cmpN_eq rfl
/-- enough for the program's laws -/
def NN : Nat := 4294967296 ^ 131
theorem NN_le {k : Nat} (h : k ≤ 131) : 4294967296 ^ k ≤ NN := Nat.pow_le_pow_right (by decide) h
theorem fuel_NN : Fuel NN := ⟨Nat.le_trans (by decide) (NN_le (k := 2) (by decide)), NN_le (by decide), by decide +kernel⟩
end Go.Sx
