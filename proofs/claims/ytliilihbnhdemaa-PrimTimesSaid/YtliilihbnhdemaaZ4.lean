import Derived.Test.YtliilihbnhdemaaZ3
section
set_option linter.unusedVariables false
set_option linter.unusedSimpArgs false
namespace Go.Sx
open Go Go.RowKit Go.Ch Go.Proofs.Ytliilihbnhdemaa
/-! ### moments -/
def leapZ (y : Int) : Bool := y % 4 == 0 && (y % 100 != 0 || y % 400 == 0)
def daysZ (y m : Int) : Int := if m = 4 ∨ m = 6 ∨ m = 9 ∨ m = 11 then 30 else if m = 2 then (if leapZ y then 29 else 28) else 31
def okZ (y m d h i s : Int) : Prop := 1 ≤ y ∧ y ≤ 9999 ∧ 1 ≤ m ∧ m ≤ 12 ∧ 1 ≤ d ∧ d ≤ daysZ y m ∧ 0 ≤ h ∧ h ≤ 23 ∧ 0 ≤ i ∧ i ≤ 59 ∧ 0 ≤ s ∧ s ≤ 59
instance (y m d h i s : Int) : Decidable (okZ y m d h i s) := by unfold okZ; infer_instance
theorem daysZ_b (y m : Int) : 28 ≤ daysZ y m ∧ daysZ y m ≤ 31 := by unfold daysZ; split <;> (try split) <;> (try split) <;> omega
theorem leap_is (n : Nat) {y : Int} (h : 0 ≤ y) : pleap n y = some (leapZ y) := by
  unfold pleap leapZ
  rw [Int.tmod_eq_emod_of_nonneg h, Int.tmod_eq_emod_of_nonneg h, Int.tmod_eq_emod_of_nonneg h, gd_pos (by decide), gd_pos (by decide), gd_pos (by decide)]
  cases (y % 4 == 0) <;> cases (y % 100 != 0) <;> rfl
theorem days_is (n : Nat) {y m : Int} (h : 0 ≤ y) : pdays n y m = some (daysZ y m) := by
  unfold pdays pdays_j1 daysZ
  rw [leap_is n h]
  by_cases h4 : m = 4
  · subst h4; rfl
  · by_cases h6 : m = 6
    · subst h6; rfl
    · by_cases h9 : m = 9
      · subst h9; rfl
      · by_cases h11 : m = 11
        · subst h11; rfl
        · by_cases h2 : m = 2
          · subst h2; cases leapZ y <;> rfl
          · rw [beq_eq_false_iff_ne.2 h4, beq_eq_false_iff_ne.2 h6, beq_eq_false_iff_ne.2 h9, beq_eq_false_iff_ne.2 h11, beq_eq_false_iff_ne.2 h2]; simp [h4, h6, h9, h11, h2]
theorem valid_is (n : Nat) (y m d h i s : Int) : pvalid n y m d h i s = some (decide (okZ y m d h i s)) := by
  unfold pvalid
  by_cases h1 : 1 ≤ y
  · rw [ite_f (by simp; omega)]
    by_cases h2 : y ≤ 9999
    · rw [ite_f (by simp; omega)]
      by_cases h3 : 1 ≤ m
      · rw [ite_f (by simp; omega)]
        by_cases h4 : m ≤ 12
        · rw [ite_f (by simp; omega)]
          by_cases h5 : 1 ≤ d
          · rw [ite_f (by simp; omega), days_is n (by omega), Option.bind_some]
            by_cases h6 : d ≤ daysZ y m
            · rw [ite_f (by simp; omega)]
              by_cases h7 : 0 ≤ h <;> by_cases h8 : h ≤ 23 <;> by_cases h9 : 0 ≤ i <;> by_cases h10 : i ≤ 59 <;> by_cases h11 : 0 ≤ s <;> by_cases h12 : s ≤ 59 <;> simp [okZ, h1, h2, h3, h4, h5, h6, h7, h8, h9, h10, h11, h12]
            · rw [ite_t (by simp; omega), decide_eq_false (fun hh => h6 hh.2.2.2.2.2.1)]
          · rw [ite_t (by simp; omega), decide_eq_false (fun hh => h5 hh.2.2.2.2.1)]
        · rw [ite_t (by simp; omega), decide_eq_false (fun hh => h4 hh.2.2.2.1)]
      · rw [ite_t (by simp; omega), decide_eq_false (fun hh => h3 hh.2.2.1)]
    · rw [ite_t (by simp; omega), decide_eq_false (fun hh => h2 hh.2.1)]
  · rw [ite_t (by simp; omega), decide_eq_false (fun hh => h1 hh.1)]
theorem rleap_is (n : Nat) {y : Int} (h : 0 ≤ y) : rLeap n y = some (leapZ y) := by
  unfold rLeap leapZ
  rw [Int.tmod_eq_emod_of_nonneg h, Int.tmod_eq_emod_of_nonneg h, Int.tmod_eq_emod_of_nonneg h, gd_pos (by decide), gd_pos (by decide), gd_pos (by decide)]
  by_cases h4 : y % 400 = 0
  · have : y % 4 = 0 := by omega
    rw [ite_t (by rw [h4]; rfl), this, h4]; simp
  · rw [ite_f (by simpa using h4)]
    have e : (y % 400 == 0) = false := by simpa using h4
    rw [e]
    cases (y % 4 == 0) <;> cases (y % 100 != 0) <;> rfl
theorem rdays_is (n : Nat) {y m : Int} (h : 0 ≤ y) : rDays n y m = some (daysZ y m) := by
  unfold rDays daysZ
  rw [rleap_is n h]
  by_cases h2 : m = 2
  · subst h2; cases leapZ y <;> rfl
  · by_cases h4 : m = 4
    · subst h4; rfl
    · by_cases h6 : m = 6
      · subst h6; rfl
      · by_cases h9 : m = 9
        · subst h9; rfl
        · by_cases h11 : m = 11
          · subst h11; rfl
          · rw [beq_eq_false_iff_ne.2 h4, beq_eq_false_iff_ne.2 h6, beq_eq_false_iff_ne.2 h9, beq_eq_false_iff_ne.2 h11, beq_eq_false_iff_ne.2 h2]; simp [h4, h6, h9, h11, h2]
theorem rmay_is (n : Nat) (y m d h i s : Int) : rMay8 n y m d h i s = some (decide (okZ y m d h i s)) := by
  unfold rMay8
  by_cases h1 : 1 ≤ y
  · rw [ite_f (by simp; omega)]
    by_cases h2 : y ≤ 9999
    · rw [ite_f (by simp; omega)]
      by_cases h3 : 1 ≤ m
      · rw [ite_f (by simp; omega)]
        by_cases h4 : m ≤ 12
        · rw [ite_f (by simp; omega)]
          by_cases h5 : 1 ≤ d
          · rw [ite_f (by simp; omega)]
            by_cases h7 : 0 ≤ h
            · rw [ite_f (by simp; omega)]
              by_cases h9 : 0 ≤ i
              · rw [ite_f (by simp; omega)]
                by_cases h11 : 0 ≤ s
                · rw [ite_f (by simp; omega), rdays_is n (by omega), Option.bind_some, show decide (h < (24 : Int)) = decide (h ≤ 23) by rw [Bool.eq_iff_iff]; simp; omega, show decide (i < (60 : Int)) = decide (i ≤ 59) by rw [Bool.eq_iff_iff]; simp; omega, show decide (s < (60 : Int)) = decide (s ≤ 59) by rw [Bool.eq_iff_iff]; simp; omega]
                  by_cases h6 : d ≤ daysZ y m <;> by_cases h8 : h ≤ 23 <;> by_cases h10 : i ≤ 59 <;> by_cases h12 : s ≤ 59 <;> simp [okZ, h1, h2, h3, h4, h5, h6, h7, h8, h9, h10, h11, h12]
                · rw [ite_t (by simp; omega), decide_eq_false (fun hh => h11 hh.2.2.2.2.2.2.2.2.2.2.1)]
              · rw [ite_t (by simp; omega), decide_eq_false (fun hh => h9 hh.2.2.2.2.2.2.2.2.1)]
            · rw [ite_t (by simp; omega), decide_eq_false (fun hh => h7 hh.2.2.2.2.2.2.1)]
          · rw [ite_t (by simp; omega), decide_eq_false (fun hh => h5 hh.2.2.2.2.1)]
        · rw [ite_t (by simp; omega), decide_eq_false (fun hh => h4 hh.2.2.2.1)]
      · rw [ite_t (by simp; omega), decide_eq_false (fun hh => h3 hh.2.2.1)]
    · rw [ite_t (by simp; omega), decide_eq_false (fun hh => h2 hh.2.1)]
  · rw [ite_t (by simp; omega), decide_eq_false (fun hh => h1 hh.1)]
/-- numbers below a hundred, two digits each -/
def two2 (l : List Int) : List UInt8 := l.flatMap fun x => [UInt8.ofInt (48 + x / 10), UInt8.ofInt (48 + x % 10)]
def In100 (l : List Int) : Prop := ∀ x ∈ l, 0 ≤ x ∧ x ≤ 99
theorem ofIntB (t : Int) : (UInt8.ofInt t).toNat = (t % 256).toNat := by
  simp [UInt8.ofInt]; omega
theorem pTime_l1_is (n : Nat) (b : UInt8) (l : List Int) (hl : l.length ≤ 100) (h100 : In100 l) : ∀ (m j fu : Nat) (o : List UInt8), j + m = l.length → m < fu → o.length ≤ 2 * j → pTime_l1 n b l l.length fu o (j : Int) = some (b, (o ++ two2 (l.drop j)) ++ [90], none) := by
  intro m
  induction m with
  | zero =>
    intro j fu o hj hf ho
    cases fu with
    | zero => omega
    | succ fu =>
      rw [pTime_l1, ite_f (by simp <;> omega), gd_pos (by unfold rmB; omega), List.drop_of_length_le (by omega)]
      simp [two2]
  | succ m ih =>
    intro j fu o hj hf ho
    cases fu with
    | zero => omega
    | succ fu =>
      have hx : 0 ≤ l.getD j 0 ∧ l.getD j 0 ≤ 99 := by
        rw [List.getD_eq_getElem?_getD, List.getElem?_eq_getElem (show j < l.length by omega)]
        exact h100 _ (List.getElem_mem _)
      have e : l.drop j = l.getD j 0 :: l.drop (j + 1) := by
        rw [List.drop_eq_getElem_cons (show j < l.length by omega), List.getD_eq_getElem?_getD, List.getElem?_eq_getElem (show j < l.length by omega)]; rfl
      have e2 : two2 (l.drop j) = [UInt8.ofInt (48 + l.getD j 0 / 10), UInt8.ofInt (48 + l.getD j 0 % 10)] ++ two2 (l.drop (j + 1)) := by rw [e]; rfl
      rw [pTime_l1, ite_t (by simp <;> omega), Int.toNat_natCast, Int.tdiv_eq_ediv_of_nonneg hx.1, Int.tmod_eq_emod_of_nonneg hx.1, gd_pos (by omega), gd_pos (by omega), gd_pos (by decide), gd_pos (okI64 (by omega) (by omega)), gd_pos (okI64 (by omega) (by omega)), gd_pos (by decide), gd_pos (okI64 (by omega) (by omega)), gd_pos (by unfold rmB; omega), gd_pos (okI64 (by omega) (by omega))]
      rw [e2, ← List.append_assoc]
      exact ih (j + 1) fu _ (by omega) (by omega) (by simp; omega)
/-- a moment's mark, and its numbers -/
def markZ (y : Int) : UInt8 := if 1950 ≤ y ∧ y < 2050 then 23 else 24
def numsZ (y m d h i s : Int) : List Int := if 1950 ≤ y ∧ y < 2050 then [y % 100, m, d, h, i, s] else [y / 100, y % 100, m, d, h, i, s]
theorem nums_100 {y m d h i s : Int} (hv : okZ y m d h i s) : In100 (numsZ y m d h i s) := by
  have hd := daysZ_b y m
  obtain ⟨h1, h2, h3, h4, h5, h6, h7, h8, h9, h10, h11, h12⟩ := hv
  unfold numsZ
  split <;> intro x hx <;> simp only [List.mem_cons, List.mem_nil_iff, or_false] at hx <;> omega
theorem pTime_is {n : Nat} (hn : 100 ≤ n) (y m d h i s : Int) : pTime n y m d h i s = some (if okZ y m d h i s then (markZ y, two2 (numsZ y m d h i s) ++ [90], none) else (0, [], some 1)) := by
  unfold pTime
  rw [valid_is, Option.bind_some]
  by_cases hv : okZ y m d h i s
  · have h100 := nums_100 hv
    have hy := hv.1
    have hy2 := hv.2.1
    rw [if_pos hv, ite_f (by simp [hv]), Int.tdiv_eq_ediv_of_nonneg (by omega), Int.tmod_eq_emod_of_nonneg (by omega), gd_pos (by decide), gd_pos (okI64 (by omega) (by omega)), gd_pos (by decide)]
    unfold pTime_j1
    unfold markZ
    unfold numsZ at h100 ⊢
    by_cases h1 : 1950 ≤ y
    · rw [ite_t (by simpa using h1)]
      by_cases h2 : y < 2050
      · rw [ite_t (by simpa using h2), gd_pos (by omega), gd_pos (by omega), if_pos ⟨h1, h2⟩, if_pos ⟨h1, h2⟩]
        rw [if_pos ⟨h1, h2⟩] at h100
        exact pTime_l1_is n 23 [y % 100, m, d, h, i, s] (by simp) h100 6 0 n [] rfl (by omega) (by simp)
      · rw [ite_f (by simpa using h2), if_neg (fun h => h2 h.2), if_neg (fun h => h2 h.2)]
        rw [if_neg (fun h => h2 h.2)] at h100
        exact pTime_l1_is n 24 [y / 100, y % 100, m, d, h, i, s] (by simp) h100 7 0 n [] rfl (by omega) (by simp)
    · rw [ite_f (by simpa using h1), if_neg (fun h => h1 h.1), if_neg (fun h => h1 h.1)]
      rw [if_neg (fun h => h1 h.1)] at h100
      exact pTime_l1_is n 24 [y / 100, y % 100, m, d, h, i, s] (by simp) h100 7 0 n [] rfl (by omega) (by simp)
  · rw [if_neg hv, ite_t (by simp [hv])]
def okd (x : UInt8) : Bool := !decide (x < 48) && !decide (57 < x)
theorem okd_iff (x : UInt8) : okd x = true ↔ 48 ≤ x.toNat ∧ x.toNat ≤ 57 := by
  unfold okd
  simp only [Bool.and_eq_true, Bool.not_eq_true', decide_eq_false_iff_not, UInt8.lt_iff_toNat_lt]
  have e1 : (48 : UInt8).toNat = 48 := rfl
  have e2 : (57 : UInt8).toNat = 57 := rfl
  rw [e1, e2]; omega
def vp (a : List UInt8) (k : Nat) : Int := (((a.getD (2 * k) 0 - 48).toNat : Nat) : Int) * 10 + (((a.getD (2 * k + 1) 0 - 48).toNat : Nat) : Int)
def okp (a : List UInt8) (k : Nat) : Bool := okd (a.getD (2 * k) 0) && okd (a.getD (2 * k + 1) 0)
def vs (a : List UInt8) : Nat → List Int
  | 0 => []
  | j + 1 => vs a j ++ [vp a j]
theorem vs_len (a : List UInt8) : ∀ j, (vs a j).length = j
  | 0 => rfl
  | j + 1 => by rw [vs, List.length_append, vs_len a j]; rfl
def allp (a : List UInt8) (j : Nat) : Nat → Bool
  | 0 => true
  | m + 1 => okp a j && allp a (j + 1) m
theorem okd_lo {x : UInt8} (h : x < 48) : okd x = false := by unfold okd; rw [decide_eq_true h]; rfl
theorem okd_hi {x : UInt8} (h : 57 < x) : okd x = false := by unfold okd; rw [decide_eq_true h, Bool.not_true, Bool.and_false]
theorem okd_in {x : UInt8} (h1 : ¬ x < 48) (h2 : ¬ 57 < x) : okd x = true := by unfold okd; rw [decide_eq_false h1, decide_eq_false h2]; rfl
theorem okp_1 {a : List UInt8} {k : Nat} (h : okd (a.getD (2 * k) 0) = false) : okp a k = false := by unfold okp; rw [h, Bool.false_and]
theorem okp_2 {a : List UInt8} {k : Nat} (h : okd (a.getD (2 * k + 1) 0) = false) : okp a k = false := by unfold okp; rw [h, Bool.and_false]
theorem okp_t {a : List UInt8} {k : Nat} (h1 : ¬ a.getD (2 * k) 0 < 48) (h2 : ¬ 57 < a.getD (2 * k) 0) (h3 : ¬ a.getD (2 * k + 1) 0 < 48) (h4 : ¬ 57 < a.getD (2 * k + 1) 0) : okp a k = true := by unfold okp; rw [okd_in h1 h2, okd_in h3 h4]; rfl
theorem sub48 {x : UInt8} (h : okd x = true) : (x - 48).toNat = x.toNat - 48 := by
  have := (okd_iff x).1 h
  rw [UInt8.toNat_sub_of_le _ _ (by rw [UInt8.le_iff_toNat_le]; exact this.1)]; rfl
theorem vp_b {a : List UInt8} {k : Nat} (h : okp a k = true) : 0 ≤ vp a k ∧ vp a k ≤ 99 := by
  unfold okp at h; simp only [Bool.and_eq_true] at h
  have h1 := (okd_iff _).1 h.1; have h2 := (okd_iff _).1 h.2
  unfold vp; rw [sub48 h.1, sub48 h.2]; omega
theorem vp_two {a : List UInt8} {k : Nat} (h : okp a k = true) : UInt8.ofInt (48 + vp a k / 10) = a.getD (2 * k) 0 ∧ UInt8.ofInt (48 + vp a k % 10) = a.getD (2 * k + 1) 0 := by
  have hb := vp_b h
  unfold okp at h; simp only [Bool.and_eq_true] at h
  have h1 := (okd_iff _).1 h.1; have h2 := (okd_iff _).1 h.2
  have e : vp a k = (((a.getD (2 * k) 0).toNat : Int) - 48) * 10 + (((a.getD (2 * k + 1) 0).toNat : Int) - 48) := by
    unfold vp; rw [sub48 h.1, sub48 h.2]; omega
  rw [← UInt8.toNat_inj, ← UInt8.toNat_inj, ofIntB, ofIntB, e]
  omega
theorem ok_two {x : Int} (h : 0 ≤ x ∧ x ≤ 99) : okd (UInt8.ofInt (48 + x / 10)) = true ∧ okd (UInt8.ofInt (48 + x % 10)) = true := by
  rw [okd_iff, okd_iff, ofIntB, ofIntB]; omega
def rd (a : List UInt8) (k : Nat) : Int := if okp a k then vp a k else -1
theorem rdigits_is (n : Nat) (a : List UInt8) (k : Nat) (h : 2 * k + 1 < a.length) (ha : a.length ≤ 100) {i : Int} (hi : i = ((2 * k : Nat) : Int)) : rdigits n a i = some (rd a k) := by
  subst hi
  show rdigits n a ((2 * k : Nat) : Int) = some (if okp a k then vp a k else -1)
  have e1 : (((2 * k : Nat) : Int) + 1).toNat = 2 * k + 1 := by omega
  unfold rdigits
  rw [gd_pos (by omega), gd_pos (by omega), Int.toNat_natCast, e1]
  have hx := (a.getD (2 * k) 0 - 48).toNat_lt
  have hy := (a.getD (2 * k + 1) 0 - 48).toNat_lt
  by_cases h1 : a.getD (2 * k) 0 < 48
  · rw [ite_t (decide_eq_true h1), if_neg (by rw [okp_1 (okd_lo h1)]; exact Bool.false_ne_true)]
  · rw [ite_f (decide_eq_false h1), gd_pos (by omega), gd_pos (by omega)]
    by_cases h2 : 57 < a.getD (2 * k) 0
    · rw [ite_t (decide_eq_true h2), if_neg (by rw [okp_1 (okd_hi h2)]; exact Bool.false_ne_true)]
    · rw [ite_f (decide_eq_false h2), gd_pos (okI64 (by omega) (by omega)), gd_pos (by omega), gd_pos (by omega)]
      by_cases h3 : a.getD (2 * k + 1) 0 < 48
      · rw [ite_t (decide_eq_true h3), if_neg (by rw [okp_2 (okd_lo h3)]; exact Bool.false_ne_true)]
      · rw [ite_f (decide_eq_false h3), gd_pos (okI64 (by omega) (by omega)), gd_pos (by omega), gd_pos (by omega)]
        by_cases h4 : 57 < a.getD (2 * k + 1) 0
        · rw [ite_t (decide_eq_true h4), if_neg (by rw [okp_2 (okd_hi h4)]; exact Bool.false_ne_true)]
        · rw [ite_f (decide_eq_false h4), gd_pos (by omega), gd_pos (by omega), gd_pos (okI64 (by omega) (by omega)), gd_pos (okI64 (by omega) (by omega)), gd_pos (by omega), gd_pos (by omega), gd_pos (okI64 (by omega) (by omega)), if_pos (okp_t h1 h2 h3 h4)]
          unfold vp; congr 1; omega
theorem rtwo_is (n : Nat) {x : Int} (h : 0 ≤ x ∧ x ≤ 99) : rtwo n x = some [UInt8.ofInt (48 + x / 10), UInt8.ofInt (48 + x % 10)] := by
  unfold rtwo
  rw [Int.tdiv_eq_ediv_of_nonneg (by omega), Int.tmod_eq_emod_of_nonneg (by omega), Int.tmod_eq_emod_of_nonneg (by omega), gd_pos (by decide), gd_pos (okI64 (by omega) (by omega)), gd_pos (by decide), gd_pos (okI64 (by omega) (by omega)), gd_pos (by decide), gd_pos (okI64 (by omega) (by omega)), show x / 10 % 10 = x / 10 by omega]
theorem rTime_is (n : Nat) {y m d h i s : Int} (hv : okZ y m d h i s) : rTime n y m d h i s = some (markZ y, two2 (numsZ y m d h i s) ++ [90]) := by
  have hd := daysZ_b y m
  obtain ⟨h1, h2, h3, h4, h5, h6, h7, h8, h9, h10, h11, h12⟩ := hv
  unfold rTime
  rw [Int.tmod_eq_emod_of_nonneg (by omega), gd_pos (by decide), rtwo_is n (by omega), Option.bind_some, rtwo_is n (by omega), Option.bind_some, gd_pos (by unfold rmB; simp), rtwo_is n (by omega), Option.bind_some, gd_pos (by unfold rmB; simp), rtwo_is n (by omega), Option.bind_some, gd_pos (by unfold rmB; simp), rtwo_is n (by omega), Option.bind_some, gd_pos (by unfold rmB; simp), rtwo_is n (by omega), Option.bind_some, gd_pos (by unfold rmB; simp), gd_pos (by unfold rmB; simp)]
  unfold markZ numsZ
  by_cases g1 : 1950 ≤ y
  · rw [ite_t (decide_eq_true g1)]
    by_cases g2 : y ≤ 2049
    · rw [ite_t (decide_eq_true g2), if_pos ⟨g1, by omega⟩, if_pos ⟨g1, by omega⟩]; rfl
    · rw [ite_f (decide_eq_false g2), if_neg (by omega), if_neg (by omega), Int.tdiv_eq_ediv_of_nonneg (by omega), gd_pos (by decide), gd_pos (okI64 (by omega) (by omega)), rtwo_is n (by omega), Option.bind_some, gd_pos (by unfold rmB; simp)]; rfl
  · rw [ite_f (decide_eq_false g1), if_neg (by omega), if_neg (by omega), Int.tdiv_eq_ediv_of_nonneg (by omega), gd_pos (by decide), gd_pos (okI64 (by omega) (by omega)), rtwo_is n (by omega), Option.bind_some, gd_pos (by unfold rmB; simp)]; rfl
/-- whether a moment stands there -/
def okT (mk : UInt8) (y m d h i s : Int) : Prop := okZ y m d h i s ∧ markZ y = mk
instance (mk : UInt8) (y m d h i s : Int) : Decidable (okT mk y m d h i s) := by unfold okT; infer_instance
abbrev badT : Int × Int × Int × Int × Int × Int × Option Int := (0, 0, 0, 0, 0, 0, some 2)
theorem l2_is (n : Nat) (mk : UInt8) (a : List UInt8) (M : Nat) (ha : a.length = 2 * M + 1) : ∀ (m j fu : Nat), j + m = M → m < fu → M ≤ 100 → pReadTime_l2 n mk a ((2 * M + 1 : Nat) : Int) fu (vs a j) ((2 * j : Nat) : Int) =
    if allp a j m = true then (bif (mk == 23) then (gd (0 ≤ (0 : Int)) <| gd ((0 : Int) < (((vs a M).length : Nat) : Int)) <| bif (decide ((50 : Int) ≤ ((vs a M).getD 0 0))) then pReadTime_j5 n mk (vs a M) 19 else pReadTime_j5 n mk (vs a M) 20) else pReadTime_j4 n mk (vs a M)) else some badT := by
  intro m
  induction m with
  | zero =>
    intro j fu hj hf hM
    obtain rfl : j = M := by omega
    cases fu with
    | zero => omega
    | succ fu => rw [pReadTime_l2, gd_pos (okI64 (by omega) (by omega)), ite_f (decide_eq_false (by omega)), if_pos (show allp a j 0 = true from rfl)]
  | succ m ih =>
    intro j fu hj hf hM
    have hvl := vs_len a j
    have e1 : (((2 * j : Nat) : Int) + 1).toNat = 2 * j + 1 := by omega
    have hx := (a.getD (2 * j) 0 - 48).toNat_lt
    have hy := (a.getD (2 * j + 1) 0 - 48).toNat_lt
    cases fu with
    | zero => omega
    | succ fu =>
      rw [pReadTime_l2, gd_pos (okI64 (by omega) (by omega)), ite_t (decide_eq_true (by omega)), gd_pos (by omega), gd_pos (by omega), Int.toNat_natCast, e1]
      by_cases h1 : a.getD (2 * j) 0 < 48
      · rw [ite_t (decide_eq_true h1), if_neg (by rw [allp, okp_1 (okd_lo h1), Bool.false_and]; exact Bool.false_ne_true)]
      · rw [ite_f (decide_eq_false h1), gd_pos (by omega), gd_pos (by omega)]
        by_cases h2 : 57 < a.getD (2 * j) 0
        · rw [ite_t (decide_eq_true h2), if_neg (by rw [allp, okp_1 (okd_hi h2), Bool.false_and]; exact Bool.false_ne_true)]
        · rw [ite_f (decide_eq_false h2), gd_pos (okI64 (by omega) (by omega)), gd_pos (by omega), gd_pos (by omega)]
          by_cases h3 : a.getD (2 * j + 1) 0 < 48
          · rw [ite_t (decide_eq_true h3), if_neg (by rw [allp, okp_2 (okd_lo h3), Bool.false_and]; exact Bool.false_ne_true)]
          · rw [ite_f (decide_eq_false h3), gd_pos (okI64 (by omega) (by omega)), gd_pos (by omega), gd_pos (by omega)]
            by_cases h4 : 57 < a.getD (2 * j + 1) 0
            · rw [ite_t (decide_eq_true h4), if_neg (by rw [allp, okp_2 (okd_hi h4), Bool.false_and]; exact Bool.false_ne_true)]
            · have hok : okp a j = true := okp_t h1 h2 h3 h4
              rw [ite_f (decide_eq_false h4), gd_pos (by omega), gd_pos (by omega), gd_pos (okI64 (by omega) (by omega)), gd_pos (okI64 (by omega) (by omega)), gd_pos (by omega), gd_pos (by omega), gd_pos (okI64 (by omega) (by omega)), gd_pos (by unfold rmB; omega), gd_pos (okI64 (by omega) (by omega))]
              have := ih (j + 1) fu (by omega) (by omega) hM
              rw [show ((2 * (j + 1) : Nat) : Int) = ((2 * j : Nat) : Int) + 2 by omega] at this
              have e2 : allp a j (m + 1) = allp a (j + 1) m := by simp only [allp, hok, Bool.true_and]
              rw [e2]
              exact this
theorem l1_is (n : Nat) (mk : UInt8) (a : List UInt8) (M : Nat) (ha : a.length = 2 * M + 1) : ∀ (m j fu : Nat), j + m = M → m < fu → M ≤ 100 → pReadTime_l1 n mk a ((2 * M + 1 : Nat) : Int) fu (vs a j) ((2 * j : Nat) : Int) =
    if allp a j m = true then (bif (mk == 23) then (gd (0 ≤ (0 : Int)) <| gd ((0 : Int) < (((vs a M).length : Nat) : Int)) <| bif (decide ((50 : Int) ≤ ((vs a M).getD 0 0))) then pReadTime_j3 n mk (vs a M) 19 else pReadTime_j3 n mk (vs a M) 20) else pReadTime_j2 n mk (vs a M)) else some badT := by
  intro m
  induction m with
  | zero =>
    intro j fu hj hf hM
    obtain rfl : j = M := by omega
    cases fu with
    | zero => omega
    | succ fu => rw [pReadTime_l1, gd_pos (okI64 (by omega) (by omega)), ite_f (decide_eq_false (by omega)), if_pos (show allp a j 0 = true from rfl)]
  | succ m ih =>
    intro j fu hj hf hM
    have hvl := vs_len a j
    have e1 : (((2 * j : Nat) : Int) + 1).toNat = 2 * j + 1 := by omega
    have hx := (a.getD (2 * j) 0 - 48).toNat_lt
    have hy := (a.getD (2 * j + 1) 0 - 48).toNat_lt
    cases fu with
    | zero => omega
    | succ fu =>
      rw [pReadTime_l1, gd_pos (okI64 (by omega) (by omega)), ite_t (decide_eq_true (by omega)), gd_pos (by omega), gd_pos (by omega), Int.toNat_natCast, e1]
      by_cases h1 : a.getD (2 * j) 0 < 48
      · rw [ite_t (decide_eq_true h1), if_neg (by rw [allp, okp_1 (okd_lo h1), Bool.false_and]; exact Bool.false_ne_true)]
      · rw [ite_f (decide_eq_false h1), gd_pos (by omega), gd_pos (by omega)]
        by_cases h2 : 57 < a.getD (2 * j) 0
        · rw [ite_t (decide_eq_true h2), if_neg (by rw [allp, okp_1 (okd_hi h2), Bool.false_and]; exact Bool.false_ne_true)]
        · rw [ite_f (decide_eq_false h2), gd_pos (okI64 (by omega) (by omega)), gd_pos (by omega), gd_pos (by omega)]
          by_cases h3 : a.getD (2 * j + 1) 0 < 48
          · rw [ite_t (decide_eq_true h3), if_neg (by rw [allp, okp_2 (okd_lo h3), Bool.false_and]; exact Bool.false_ne_true)]
          · rw [ite_f (decide_eq_false h3), gd_pos (okI64 (by omega) (by omega)), gd_pos (by omega), gd_pos (by omega)]
            by_cases h4 : 57 < a.getD (2 * j + 1) 0
            · rw [ite_t (decide_eq_true h4), if_neg (by rw [allp, okp_2 (okd_hi h4), Bool.false_and]; exact Bool.false_ne_true)]
            · have hok : okp a j = true := okp_t h1 h2 h3 h4
              rw [ite_f (decide_eq_false h4), gd_pos (by omega), gd_pos (by omega), gd_pos (okI64 (by omega) (by omega)), gd_pos (okI64 (by omega) (by omega)), gd_pos (by omega), gd_pos (by omega), gd_pos (okI64 (by omega) (by omega)), gd_pos (by unfold rmB; omega), gd_pos (okI64 (by omega) (by omega))]
              have := ih (j + 1) fu (by omega) (by omega) hM
              rw [show ((2 * (j + 1) : Nat) : Int) = ((2 * j : Nat) : Int) + 2 by omega] at this
              have e2 : allp a j (m + 1) = allp a (j + 1) m := by simp only [allp, hok, Bool.true_and]
              rw [e2]
              exact this
theorem j4_is {n : Nat} (hn : 100 ≤ n) (mk : UInt8) (z : List Int) (z0 z1 z2 z3 z4 z5 z6 : Int) (hz : z = [z0, z1, z2, z3, z4, z5, z6]) (h0 : 0 ≤ z0 ∧ z0 ≤ 99) (h1 : 0 ≤ z1 ∧ z1 ≤ 99) (h2 : 0 ≤ z2 ∧ z2 ≤ 99) (h3 : 0 ≤ z3 ∧ z3 ≤ 99) (h4 : 0 ≤ z4 ∧ z4 ≤ 99) (h5 : 0 ≤ z5 ∧ z5 ≤ 99) :
    pReadTime_j4 n mk z = some (if okT mk (z0 * 100 + z1) z2 z3 z4 z5 z6 then (z0 * 100 + z1, z2, z3, z4, z5, z6, none) else badT) := by
  subst hz
  have hl : (([z0, z1, z2, z3, z4, z5, z6] : List Int).length : Int) = 7 := rfl
  unfold pReadTime_j4
  have g0 : ([z0, z1, z2, z3, z4, z5, z6] : List Int).getD 0 0 = z0 := rfl
  have g1 : ([z0, z1, z2, z3, z4, z5, z6] : List Int).getD 1 0 = z1 := rfl
  have g2 : ([z0, z1, z2, z3, z4, z5, z6] : List Int).getD 2 0 = z2 := rfl
  have g3 : ([z0, z1, z2, z3, z4, z5, z6] : List Int).getD 3 0 = z3 := rfl
  have g4 : ([z0, z1, z2, z3, z4, z5, z6] : List Int).getD 4 0 = z4 := rfl
  have g5 : ([z0, z1, z2, z3, z4, z5, z6] : List Int).getD 5 0 = z5 := rfl
  have g6 : ([z0, z1, z2, z3, z4, z5, z6] : List Int).getD 6 0 = z6 := rfl
  rw [g0, g1, g2, g3, g4, g5, g6, hl]
  rw [gd_pos (by omega), gd_pos (by omega), gd_pos (okI64 (by omega) (by omega)), gd_pos (by omega), gd_pos (by omega), gd_pos (okI64 (by omega) (by omega)), gd_pos (by omega), gd_pos (by omega), gd_pos (by omega), gd_pos (by omega), gd_pos (by omega), gd_pos (by omega), gd_pos (by omega), gd_pos (by omega), gd_pos (by omega), gd_pos (by omega), pTime_is hn, Option.bind_some]
  by_cases hv : okZ (z0 * 100 + z1) z2 z3 z4 z5 z6
  · rw [if_pos hv, ite_f (by rfl)]
    by_cases hm : markZ (z0 * 100 + z1) = mk
    · rw [ite_f (by simp [hm]), if_pos ⟨hv, hm⟩]
    · rw [ite_t (by simpa using hm), if_neg (fun h => hm h.2)]
  · rw [if_neg hv, ite_t (by rfl), if_neg (fun h => hv h.1)]
theorem j2_is {n : Nat} (hn : 100 ≤ n) (mk : UInt8) (z : List Int) (z0 z1 z2 z3 z4 z5 z6 : Int) (hz : z = [z0, z1, z2, z3, z4, z5, z6]) (h0 : 0 ≤ z0 ∧ z0 ≤ 99) (h1 : 0 ≤ z1 ∧ z1 ≤ 99) (h2 : 0 ≤ z2 ∧ z2 ≤ 99) (h3 : 0 ≤ z3 ∧ z3 ≤ 99) (h4 : 0 ≤ z4 ∧ z4 ≤ 99) (h5 : 0 ≤ z5 ∧ z5 ≤ 99) :
    pReadTime_j2 n mk z = some (if okT mk (z0 * 100 + z1) z2 z3 z4 z5 z6 then (z0 * 100 + z1, z2, z3, z4, z5, z6, none) else badT) := by
  subst hz
  have hl : (([z0, z1, z2, z3, z4, z5, z6] : List Int).length : Int) = 7 := rfl
  unfold pReadTime_j2
  have g0 : ([z0, z1, z2, z3, z4, z5, z6] : List Int).getD 0 0 = z0 := rfl
  have g1 : ([z0, z1, z2, z3, z4, z5, z6] : List Int).getD 1 0 = z1 := rfl
  have g2 : ([z0, z1, z2, z3, z4, z5, z6] : List Int).getD 2 0 = z2 := rfl
  have g3 : ([z0, z1, z2, z3, z4, z5, z6] : List Int).getD 3 0 = z3 := rfl
  have g4 : ([z0, z1, z2, z3, z4, z5, z6] : List Int).getD 4 0 = z4 := rfl
  have g5 : ([z0, z1, z2, z3, z4, z5, z6] : List Int).getD 5 0 = z5 := rfl
  have g6 : ([z0, z1, z2, z3, z4, z5, z6] : List Int).getD 6 0 = z6 := rfl
  rw [g0, g1, g2, g3, g4, g5, g6, hl]
  rw [gd_pos (by omega), gd_pos (by omega), gd_pos (okI64 (by omega) (by omega)), gd_pos (by omega), gd_pos (by omega), gd_pos (okI64 (by omega) (by omega)), gd_pos (by omega), gd_pos (by omega), gd_pos (by omega), gd_pos (by omega), gd_pos (by omega), gd_pos (by omega), gd_pos (by omega), gd_pos (by omega), gd_pos (by omega), gd_pos (by omega), pTime_is hn, Option.bind_some]
  by_cases hv : okZ (z0 * 100 + z1) z2 z3 z4 z5 z6
  · rw [if_pos hv, ite_f (by rfl)]
    by_cases hm : markZ (z0 * 100 + z1) = mk
    · rw [ite_f (by simp [hm]), if_pos ⟨hv, hm⟩]
    · rw [ite_t (by simpa using hm), if_neg (fun h => hm h.2)]
  · rw [if_neg hv, ite_t (by rfl), if_neg (fun h => hv h.1)]
/-- what the program reads -/
theorem pRead_bad (n : Nat) (mk : UInt8) (a : List UInt8) (h : ¬ (mk = 23 ∧ a.length = 13 ∨ mk = 24 ∧ a.length = 15)) : pReadTime n mk a = some badT := by
  have go : ∀ L : Nat, (¬ (mk = 23 ∨ mk = 24) ∨ a.length ≠ L) → pReadTime_j1 n mk a (L : Int) = some badT := by
    intro L hL
    unfold pReadTime_j1
    by_cases h1 : mk = 23
    · subst h1
      have : a.length ≠ L := by rcases hL with h | h
                                · exact absurd (.inl rfl) h
                                · exact h
      rw [ite_f (by rfl), ite_t (by simp only [bne_iff_ne]; omega)]
    · rw [ite_t (by simpa using h1)]
      by_cases h2 : mk = 24
      · subst h2
        have : a.length ≠ L := by rcases hL with h | h
                                  · exact absurd (.inr rfl) h
                                  · exact h
        rw [ite_f (by rfl), ite_t (by simp only [bne_iff_ne]; omega)]
      · rw [ite_t (by simpa using h2)]
  unfold pReadTime
  by_cases h2 : mk = 24
  · subst h2
    rw [ite_t (by rfl)]
    exact go 15 (.inr (by intro h3; exact h (.inr ⟨rfl, h3⟩)))
  · rw [ite_f (by simpa using h2)]
    refine go 13 ?_
    by_cases h1 : mk = 23
    · subst h1; exact .inr (fun h3 => h (.inl ⟨rfl, h3⟩))
    · exact .inl (by simp [h1, h2])
theorem pRead_23 {n : Nat} (hn : 100 ≤ n) (a : List UInt8) (ha : a.length = 13) : pReadTime n 23 a = some (if a.getD 12 0 = 90 ∧ allp a 0 6 = true then (if okT 23 ((if 50 ≤ vp a 0 then 19 else 20) * 100 + vp a 0) (vp a 1) (vp a 2) (vp a 3) (vp a 4) (vp a 5) then ((if 50 ≤ vp a 0 then 19 else 20) * 100 + vp a 0, vp a 1, vp a 2, vp a 3, vp a 4, vp a 5, none) else badT) else badT) := by
  unfold pReadTime
  rw [ite_f (by rfl)]
  unfold pReadTime_j1
  have e : (((13 : Int) - 1).toNat) = 12 := rfl
  rw [ite_f (by rfl), ite_f (by rw [ha]; rfl), gd_pos (okI64 (by omega) (by omega)), gd_pos (by omega), gd_pos (by omega), e]
  by_cases hz : a.getD 12 0 = 90
  · rw [ite_f (by rw [hz]; rfl)]
    have := l2_is n 23 a 6 (by omega) 6 0 n rfl (by omega) (by decide)
    rw [show vs a 0 = [] from rfl, show ((2 * 0 : Nat) : Int) = 0 from rfl, show ((2 * 6 + 1 : Nat) : Int) = 13 from rfl] at this
    rw [this]
    by_cases hp : allp a 0 6 = true
    · rw [if_pos hp, if_pos ⟨hz, hp⟩]
      have h0 : okp a 0 = true := by simp only [allp, Bool.and_eq_true] at hp; exact hp.1
      have hb := vp_b h0
      have e6 : vs a 6 = [vp a 0, vp a 1, vp a 2, vp a 3, vp a 4, vp a 5] := rfl
      have hall := hp
      simp only [allp, Bool.and_eq_true] at hall
      have b1 := vp_b hall.2.1; have b2 := vp_b hall.2.2.1; have b3 := vp_b hall.2.2.2.1; have b4 := vp_b hall.2.2.2.2.1; have b5 := vp_b hall.2.2.2.2.2.1
      rw [ite_t (by rfl), e6, gd_pos (by omega), gd_pos (by simp)]
      by_cases h50 : 50 ≤ vp a 0
      · rw [ite_t (by simpa using h50), if_pos h50]
        unfold pReadTime_j5
        rw [gd_pos (by unfold rmB; simp)]
        exact j4_is hn 23 [19, vp a 0, vp a 1, vp a 2, vp a 3, vp a 4, vp a 5] 19 (vp a 0) (vp a 1) (vp a 2) (vp a 3) (vp a 4) (vp a 5) rfl (by omega) (by omega) (by omega) (by omega) (by omega) (by omega)
      · rw [ite_f (by simpa using h50), if_neg h50]
        unfold pReadTime_j5
        rw [gd_pos (by unfold rmB; simp)]
        exact j4_is hn 23 [20, vp a 0, vp a 1, vp a 2, vp a 3, vp a 4, vp a 5] 20 (vp a 0) (vp a 1) (vp a 2) (vp a 3) (vp a 4) (vp a 5) rfl (by omega) (by omega) (by omega) (by omega) (by omega) (by omega)
    · rw [if_neg hp, if_neg (fun h => hp h.2)]
  · rw [ite_t (by simpa using hz), if_neg (fun h => hz h.1)]
theorem pRead_24 {n : Nat} (hn : 100 ≤ n) (a : List UInt8) (ha : a.length = 15) : pReadTime n 24 a = some (if a.getD 14 0 = 90 ∧ allp a 0 7 = true then (if okT 24 (vp a 0 * 100 + vp a 1) (vp a 2) (vp a 3) (vp a 4) (vp a 5) (vp a 6) then (vp a 0 * 100 + vp a 1, vp a 2, vp a 3, vp a 4, vp a 5, vp a 6, none) else badT) else badT) := by
  unfold pReadTime
  rw [ite_t (by rfl)]
  unfold pReadTime_j1
  have e : (((15 : Int) - 1).toNat) = 14 := rfl
  rw [ite_t (by rfl), ite_f (by rfl), ite_f (by rw [ha]; rfl), gd_pos (okI64 (by omega) (by omega)), gd_pos (by omega), gd_pos (by omega), e]
  by_cases hz : a.getD 14 0 = 90
  · rw [ite_f (by rw [hz]; rfl)]
    have := l1_is n 24 a 7 (by omega) 7 0 n rfl (by omega) (by decide)
    rw [show vs a 0 = [] from rfl, show ((2 * 0 : Nat) : Int) = 0 from rfl, show ((2 * 7 + 1 : Nat) : Int) = 15 from rfl] at this
    rw [this]
    by_cases hp : allp a 0 7 = true
    · rw [if_pos hp, if_pos ⟨hz, hp⟩]
      have e7 : vs a 7 = [vp a 0, vp a 1, vp a 2, vp a 3, vp a 4, vp a 5, vp a 6] := rfl
      have hall := hp
      simp only [allp, Bool.and_eq_true] at hall
      have b0 := vp_b hall.1; have b1 := vp_b hall.2.1; have b2 := vp_b hall.2.2.1; have b3 := vp_b hall.2.2.2.1; have b4 := vp_b hall.2.2.2.2.1; have b5 := vp_b hall.2.2.2.2.2.1; have b6 := vp_b hall.2.2.2.2.2.2.1
      rw [ite_f (by rfl), e7]
      exact j2_is hn 24 [vp a 0, vp a 1, vp a 2, vp a 3, vp a 4, vp a 5, vp a 6] (vp a 0) (vp a 1) (vp a 2) (vp a 3) (vp a 4) (vp a 5) (vp a 6) rfl (by omega) (by omega) (by omega) (by omega) (by omega) (by omega)
    · rw [if_neg hp, if_neg (fun h => hp h.2)]
  · rw [ite_t (by simpa using hz), if_neg (fun h => hz h.1)]
/-- what the document reads -/
abbrev badR : Int × Int × Int × Int × Int × Int × Bool := (0, 0, 0, 0, 0, 0, false)
theorem rj1_is (n : Nat) (mk : UInt8) (a : List UInt8) (q : Nat) (y : Int) (ha : a.length = 2 * q + 13) (hq : q ≤ 20) : rReadTime_j1 n mk a y = some (if okT mk y (rd a (q + 1)) (rd a (q + 2)) (rd a (q + 3)) (rd a (q + 4)) (rd a (q + 5)) ∧ two2 (numsZ y (rd a (q + 1)) (rd a (q + 2)) (rd a (q + 3)) (rd a (q + 4)) (rd a (q + 5))) ++ [90] = a then (y, rd a (q + 1), rd a (q + 2), rd a (q + 3), rd a (q + 4), rd a (q + 5), true) else badR) := by
  unfold rReadTime_j1
  rw [gd_pos (okI64 (by omega) (by omega)), rdigits_is n a (q + 1) (by omega) (by omega) (by omega), Option.bind_some, gd_pos (okI64 (by omega) (by omega)), rdigits_is n a (q + 2) (by omega) (by omega) (by omega), Option.bind_some, gd_pos (okI64 (by omega) (by omega)), rdigits_is n a (q + 3) (by omega) (by omega) (by omega), Option.bind_some, gd_pos (okI64 (by omega) (by omega)), rdigits_is n a (q + 4) (by omega) (by omega) (by omega), Option.bind_some, gd_pos (okI64 (by omega) (by omega)), rdigits_is n a (q + 5) (by omega) (by omega) (by omega), Option.bind_some, rmay_is, Option.bind_some]
  by_cases hv : okZ y (rd a (q + 1)) (rd a (q + 2)) (rd a (q + 3)) (rd a (q + 4)) (rd a (q + 5))
  · rw [ite_f (by rw [decide_eq_true hv]; rfl), rTime_is n hv, Option.bind_some]
    by_cases hm : markZ y = mk
    · rw [ite_f (by simp [hm])]
      by_cases ht : two2 (numsZ y (rd a (q + 1)) (rd a (q + 2)) (rd a (q + 3)) (rd a (q + 4)) (rd a (q + 5))) ++ [90] = a
      · rw [if_pos ⟨⟨hv, hm⟩, ht⟩, ite_f (by simp only [bne_eq_false_iff_eq]; exact ht)]
      · rw [if_neg (fun h => ht h.2), ite_t (by simp only [bne_iff_ne]; exact ht)]
    · rw [ite_t (by simpa using hm), if_neg (fun h => hm h.1.2)]
  · rw [ite_t (by rw [decide_eq_false hv]; rfl), if_neg (fun h => hv h.1.1)]
theorem rj2_is (n : Nat) (mk : UInt8) (a : List UInt8) (q : Nat) (y : Int) (ha : a.length = 2 * q + 13) (hq : q ≤ 20) : rReadTime_j2 n mk a y = some (if okT mk y (rd a (q + 1)) (rd a (q + 2)) (rd a (q + 3)) (rd a (q + 4)) (rd a (q + 5)) ∧ two2 (numsZ y (rd a (q + 1)) (rd a (q + 2)) (rd a (q + 3)) (rd a (q + 4)) (rd a (q + 5))) ++ [90] = a then (y, rd a (q + 1), rd a (q + 2), rd a (q + 3), rd a (q + 4), rd a (q + 5), true) else badR) := by
  unfold rReadTime_j2
  rw [gd_pos (okI64 (by omega) (by omega)), rdigits_is n a (q + 1) (by omega) (by omega) (by omega), Option.bind_some, gd_pos (okI64 (by omega) (by omega)), rdigits_is n a (q + 2) (by omega) (by omega) (by omega), Option.bind_some, gd_pos (okI64 (by omega) (by omega)), rdigits_is n a (q + 3) (by omega) (by omega) (by omega), Option.bind_some, gd_pos (okI64 (by omega) (by omega)), rdigits_is n a (q + 4) (by omega) (by omega) (by omega), Option.bind_some, gd_pos (okI64 (by omega) (by omega)), rdigits_is n a (q + 5) (by omega) (by omega) (by omega), Option.bind_some, rmay_is, Option.bind_some]
  by_cases hv : okZ y (rd a (q + 1)) (rd a (q + 2)) (rd a (q + 3)) (rd a (q + 4)) (rd a (q + 5))
  · rw [ite_f (by rw [decide_eq_true hv]; rfl), rTime_is n hv, Option.bind_some]
    by_cases hm : markZ y = mk
    · rw [ite_f (by simp [hm])]
      by_cases ht : two2 (numsZ y (rd a (q + 1)) (rd a (q + 2)) (rd a (q + 3)) (rd a (q + 4)) (rd a (q + 5))) ++ [90] = a
      · rw [if_pos ⟨⟨hv, hm⟩, ht⟩, ite_f (by simp only [bne_eq_false_iff_eq]; exact ht)]
      · rw [if_neg (fun h => ht h.2), ite_t (by simp only [bne_iff_ne]; exact ht)]
    · rw [ite_t (by simpa using hm), if_neg (fun h => hm h.1.2)]
  · rw [ite_t (by rw [decide_eq_false hv]; rfl), if_neg (fun h => hv h.1.1)]
def yr13 (a : List UInt8) : Int := if 50 ≤ rd a 0 then rd a 0 + 1900 else rd a 0 + 2000
def yr15 (a : List UInt8) : Int := rd a 1 + 100 * rd a 0
theorem rd_b (a : List UInt8) (k : Nat) : -1 ≤ rd a k ∧ rd a k ≤ 99 := by
  unfold rd; split
  · rename_i h; have := vp_b h; omega
  · omega
theorem rRead_13 (n : Nat) (mk : UInt8) (a : List UInt8) (ha : a.length = 13) : rReadTime n mk a = some (if okT mk (yr13 a) (rd a 1) (rd a 2) (rd a 3) (rd a 4) (rd a 5) ∧ two2 (numsZ (yr13 a) (rd a 1) (rd a 2) (rd a 3) (rd a 4) (rd a 5)) ++ [90] = a then (yr13 a, rd a 1, rd a 2, rd a 3, rd a 4, rd a 5, true) else badR) := by
  have hb := rd_b a 0
  unfold rReadTime
  rw [ite_f (by rw [ha]; rfl), gd_pos (okI64 (by omega) (by omega)), rdigits_is n a 0 (by omega) (by omega) (by rw [ha]; rfl), Option.bind_some, ite_f (by rw [ha]; rfl)]
  unfold yr13
  by_cases h : 50 ≤ rd a 0
  · rw [ite_t (decide_eq_true h), if_pos h]
    rw [gd_pos (okI64 (by omega) (by omega))]
    exact rj2_is n mk a 0 (rd a 0 + 1900) (by omega) (by omega)
  · rw [ite_f (decide_eq_false h), if_neg h]
    rw [gd_pos (okI64 (by omega) (by omega))]
    exact rj2_is n mk a 0 (rd a 0 + 2000) (by omega) (by omega)
theorem rRead_15 (n : Nat) (mk : UInt8) (a : List UInt8) (ha : a.length = 15) : rReadTime n mk a = some (if okT mk (yr15 a) (rd a 2) (rd a 3) (rd a 4) (rd a 5) (rd a 6) ∧ two2 (numsZ (yr15 a) (rd a 2) (rd a 3) (rd a 4) (rd a 5) (rd a 6)) ++ [90] = a then (yr15 a, rd a 2, rd a 3, rd a 4, rd a 5, rd a 6, true) else badR) := by
  have hb := rd_b a 0; have hb1 := rd_b a 1
  unfold rReadTime
  rw [ite_t (by rw [ha]; rfl), ite_f (by rw [ha]; rfl), gd_pos (okI64 (by omega) (by omega)), rdigits_is n a 1 (by omega) (by omega) (by rw [ha]; rfl), Option.bind_some, ite_t (by rw [ha]; rfl), rdigits_is (i := 0) n a 0 (by omega) (by omega) rfl, Option.bind_some]
  rw [gd_pos (okI64 (by omega) (by omega)), gd_pos (okI64 (by omega) (by omega))]
  unfold yr15
  exact rj1_is n mk a 1 (rd a 1 + 100 * rd a 0) (by omega) (by omega)
theorem rRead_bad (n : Nat) (mk : UInt8) (a : List UInt8) (h1 : a.length ≠ 13) (h2 : a.length ≠ 15) : rReadTime n mk a = some badR := by
  unfold rReadTime
  rw [ite_t (by simp only [bne_iff_ne]; omega), ite_t (by simp only [bne_iff_ne]; omega)]

theorem two_at (a : List UInt8) (k : Nat) (x : Int) (hx : 0 ≤ x ∧ x ≤ 99) (h1 : a.getD (2 * k) 0 = UInt8.ofInt (48 + x / 10)) (h2 : a.getD (2 * k + 1) 0 = UInt8.ofInt (48 + x % 10)) : okp a k = true ∧ x = vp a k := by
  have ho := ok_two hx
  have hok : okp a k = true := by unfold okp; rw [h1, h2, ho.1, ho.2]; rfl
  refine ⟨hok, ?_⟩
  unfold vp
  rw [h1, h2, sub48 ho.1, sub48 ho.2, ofIntB, ofIntB]; omega
theorem list13 {a : List UInt8} (h : a.length = 13) : a = [a.getD 0 0, a.getD 1 0, a.getD 2 0, a.getD 3 0, a.getD 4 0, a.getD 5 0, a.getD 6 0, a.getD 7 0, a.getD 8 0, a.getD 9 0, a.getD 10 0, a.getD 11 0, a.getD 12 0] := by
  match a, h with
  | [_, _, _, _, _, _, _, _, _, _, _, _, _], _ => rfl
theorem list15 {a : List UInt8} (h : a.length = 15) : a = [a.getD 0 0, a.getD 1 0, a.getD 2 0, a.getD 3 0, a.getD 4 0, a.getD 5 0, a.getD 6 0, a.getD 7 0, a.getD 8 0, a.getD 9 0, a.getD 10 0, a.getD 11 0, a.getD 12 0, a.getD 13 0, a.getD 14 0] := by
  match a, h with
  | [_, _, _, _, _, _, _, _, _, _, _, _, _, _, _], _ => rfl
/-- six numbers' digits, seven numbers' -/
theorem two6 {a : List UInt8} (h : a.length = 13) {x0 x1 x2 x3 x4 x5 : Int} (hx : In100 [x0, x1, x2, x3, x4, x5]) : two2 [x0, x1, x2, x3, x4, x5] ++ [90] = a ↔ allp a 0 6 = true ∧ a.getD 12 0 = 90 ∧ x0 = vp a 0 ∧ x1 = vp a 1 ∧ x2 = vp a 2 ∧ x3 = vp a 3 ∧ x4 = vp a 4 ∧ x5 = vp a 5 := by
  have e : two2 [x0, x1, x2, x3, x4, x5] ++ [90] = [UInt8.ofInt (48 + x0 / 10), UInt8.ofInt (48 + x0 % 10), UInt8.ofInt (48 + x1 / 10), UInt8.ofInt (48 + x1 % 10), UInt8.ofInt (48 + x2 / 10), UInt8.ofInt (48 + x2 % 10), UInt8.ofInt (48 + x3 / 10), UInt8.ofInt (48 + x3 % 10), UInt8.ofInt (48 + x4 / 10), UInt8.ofInt (48 + x4 % 10), UInt8.ofInt (48 + x5 / 10), UInt8.ofInt (48 + x5 % 10), 90] := rfl
  constructor
  · intro ha
    subst ha
    have p : ∀ k x, (0 ≤ x ∧ x ≤ 99) → (two2 [x0, x1, x2, x3, x4, x5] ++ [90]).getD (2 * k) 0 = UInt8.ofInt (48 + x / 10) → (two2 [x0, x1, x2, x3, x4, x5] ++ [90]).getD (2 * k + 1) 0 = UInt8.ofInt (48 + x % 10) → okp (two2 [x0, x1, x2, x3, x4, x5] ++ [90]) k = true ∧ x = vp (two2 [x0, x1, x2, x3, x4, x5] ++ [90]) k := two_at _
    have q0 := p 0 x0 (hx _ (by simp)) rfl rfl
    have q1 := p 1 x1 (hx _ (by simp)) rfl rfl
    have q2 := p 2 x2 (hx _ (by simp)) rfl rfl
    have q3 := p 3 x3 (hx _ (by simp)) rfl rfl
    have q4 := p 4 x4 (hx _ (by simp)) rfl rfl
    have q5 := p 5 x5 (hx _ (by simp)) rfl rfl
    exact ⟨by simp only [allp, q0.1, q1.1, q2.1, q3.1, q4.1, q5.1, Bool.and_true], rfl, q0.2, q1.2, q2.2, q3.2, q4.2, q5.2⟩
  · rintro ⟨hp, hz, rfl, rfl, rfl, rfl, rfl, rfl⟩
    simp only [allp, Bool.and_eq_true] at hp
    have t0 := vp_two hp.1; have t1 := vp_two hp.2.1; have t2 := vp_two hp.2.2.1; have t3 := vp_two hp.2.2.2.1; have t4 := vp_two hp.2.2.2.2.1; have t5 := vp_two hp.2.2.2.2.2.1
    rw [e, t0.1, t0.2, t1.1, t1.2, t2.1, t2.2, t3.1, t3.2, t4.1, t4.2, t5.1, t5.2, ← hz]
    exact (list13 h).symm
theorem two7 {a : List UInt8} (h : a.length = 15) {x0 x1 x2 x3 x4 x5 x6 : Int} (hx : In100 [x0, x1, x2, x3, x4, x5, x6]) : two2 [x0, x1, x2, x3, x4, x5, x6] ++ [90] = a ↔ allp a 0 7 = true ∧ a.getD 14 0 = 90 ∧ x0 = vp a 0 ∧ x1 = vp a 1 ∧ x2 = vp a 2 ∧ x3 = vp a 3 ∧ x4 = vp a 4 ∧ x5 = vp a 5 ∧ x6 = vp a 6 := by
  have e : two2 [x0, x1, x2, x3, x4, x5, x6] ++ [90] = [UInt8.ofInt (48 + x0 / 10), UInt8.ofInt (48 + x0 % 10), UInt8.ofInt (48 + x1 / 10), UInt8.ofInt (48 + x1 % 10), UInt8.ofInt (48 + x2 / 10), UInt8.ofInt (48 + x2 % 10), UInt8.ofInt (48 + x3 / 10), UInt8.ofInt (48 + x3 % 10), UInt8.ofInt (48 + x4 / 10), UInt8.ofInt (48 + x4 % 10), UInt8.ofInt (48 + x5 / 10), UInt8.ofInt (48 + x5 % 10), UInt8.ofInt (48 + x6 / 10), UInt8.ofInt (48 + x6 % 10), 90] := rfl
  constructor
  · intro ha
    subst ha
    have p : ∀ k x, (0 ≤ x ∧ x ≤ 99) → (two2 [x0, x1, x2, x3, x4, x5, x6] ++ [90]).getD (2 * k) 0 = UInt8.ofInt (48 + x / 10) → (two2 [x0, x1, x2, x3, x4, x5, x6] ++ [90]).getD (2 * k + 1) 0 = UInt8.ofInt (48 + x % 10) → okp (two2 [x0, x1, x2, x3, x4, x5, x6] ++ [90]) k = true ∧ x = vp (two2 [x0, x1, x2, x3, x4, x5, x6] ++ [90]) k := two_at _
    have q0 := p 0 x0 (hx _ (by simp)) rfl rfl
    have q1 := p 1 x1 (hx _ (by simp)) rfl rfl
    have q2 := p 2 x2 (hx _ (by simp)) rfl rfl
    have q3 := p 3 x3 (hx _ (by simp)) rfl rfl
    have q4 := p 4 x4 (hx _ (by simp)) rfl rfl
    have q5 := p 5 x5 (hx _ (by simp)) rfl rfl
    have q6 := p 6 x6 (hx _ (by simp)) rfl rfl
    exact ⟨by simp only [allp, q0.1, q1.1, q2.1, q3.1, q4.1, q5.1, q6.1, Bool.and_true], rfl, q0.2, q1.2, q2.2, q3.2, q4.2, q5.2, q6.2⟩
  · rintro ⟨hp, hz, rfl, rfl, rfl, rfl, rfl, rfl, rfl⟩
    simp only [allp, Bool.and_eq_true] at hp
    have t0 := vp_two hp.1; have t1 := vp_two hp.2.1; have t2 := vp_two hp.2.2.1; have t3 := vp_two hp.2.2.2.1; have t4 := vp_two hp.2.2.2.2.1; have t5 := vp_two hp.2.2.2.2.2.1; have t6 := vp_two hp.2.2.2.2.2.2.1
    rw [e, t0.1, t0.2, t1.1, t1.2, t2.1, t2.2, t3.1, t3.2, t4.1, t4.2, t5.1, t5.2, t6.1, t6.2, ← hz]
    exact (list15 h).symm
theorem two_len (l : List Int) : (two2 l).length = 2 * l.length := by
  induction l with
  | nil => rfl
  | cons x l ih => show (two2 l).length + 2 = _; rw [ih, List.length_cons]; omega
/-- program and document read alike -/
def toR (r : Int × Int × Int × Int × Int × Int × Option Int) (q : Int × Int × Int × Int × Int × Int × Bool) : Prop :=
  (r = badT ∧ q = badR) ∨ ∃ y m d h i s, r = (y, m, d, h, i, s, none) ∧ q = (y, m, d, h, i, s, true)
theorem read_alike (mk : UInt8) (a : List UInt8) : ∃ r q, pReadTime 1000 mk a = some r ∧ rReadTime 1000 mk a = some q ∧ toR r q := by
  by_cases h13 : a.length = 13
  · -- thirteen bytes
    rw [rRead_13 1000 mk a h13]
    -- what the document's condition says
    have hy : 1950 ≤ yr13 a ∧ yr13 a < 2050 := by have := rd_b a 0; unfold yr13; split <;> omega
    have hm : markZ (yr13 a) = 23 := by unfold markZ; rw [if_pos hy]
    have key : (okT mk (yr13 a) (rd a 1) (rd a 2) (rd a 3) (rd a 4) (rd a 5) ∧ two2 (numsZ (yr13 a) (rd a 1) (rd a 2) (rd a 3) (rd a 4) (rd a 5)) ++ [90] = a) ↔
        (mk = 23 ∧ (a.getD 12 0 = 90 ∧ allp a 0 6 = true) ∧ okT 23 ((if 50 ≤ vp a 0 then 19 else 20) * 100 + vp a 0) (vp a 1) (vp a 2) (vp a 3) (vp a 4) (vp a 5)) := by
      have same : allp a 0 6 = true → yr13 a = (if 50 ≤ vp a 0 then 19 else 20) * 100 + vp a 0 ∧ rd a 1 = vp a 1 ∧ rd a 2 = vp a 2 ∧ rd a 3 = vp a 3 ∧ rd a 4 = vp a 4 ∧ rd a 5 = vp a 5 ∧ 0 ≤ vp a 0 ∧ vp a 0 ≤ 99 := by
        intro hp
        simp only [allp, Bool.and_eq_true] at hp
        have b := vp_b hp.1
        have r0 : rd a 0 = vp a 0 := if_pos hp.1
        refine ⟨?_, if_pos hp.2.1, if_pos hp.2.2.1, if_pos hp.2.2.2.1, if_pos hp.2.2.2.2.1, if_pos hp.2.2.2.2.2.1, b.1, b.2⟩
        unfold yr13; rw [r0]; split <;> omega
      constructor
      · rintro ⟨⟨hok, hmk⟩, ht⟩
        have h100 := nums_100 hok
        unfold numsZ at ht h100
        rw [if_pos hy] at ht h100
        obtain ⟨hp, hz, _⟩ := (two6 h13 h100).1 ht
        obtain ⟨e0, e1, e2, e3, e4, e5, _⟩ := same hp
        rw [hm] at hmk
        refine ⟨hmk.symm, ⟨hz, hp⟩, ?_, ?_⟩
        · rw [← e0, ← e1, ← e2, ← e3, ← e4, ← e5]; exact hok
        · rw [← e0]; exact hm
      · rintro ⟨rfl, ⟨hz, hp⟩, hok, _⟩
        obtain ⟨e0, e1, e2, e3, e4, e5, b0, b1⟩ := same hp
        rw [← e0, ← e1, ← e2, ← e3, ← e4, ← e5] at hok
        refine ⟨⟨hok, hm⟩, ?_⟩
        have h100 := nums_100 hok
        unfold numsZ at h100 ⊢
        rw [if_pos hy] at h100 ⊢
        refine (two6 h13 h100).2 ⟨hp, hz, ?_, e1, e2, e3, e4, e5⟩
        rw [e0]; split <;> omega
    by_cases hmk : mk = 23
    · subst hmk
      rw [pRead_23 (by decide) a h13]
      refine ⟨_, _, rfl, rfl, ?_⟩
      by_cases hc : okT 23 (yr13 a) (rd a 1) (rd a 2) (rd a 3) (rd a 4) (rd a 5) ∧ two2 (numsZ (yr13 a) (rd a 1) (rd a 2) (rd a 3) (rd a 4) (rd a 5)) ++ [90] = a
      · obtain ⟨_, h1, h2⟩ := key.1 hc
        rw [if_pos hc, if_pos h1, if_pos h2]
        right
        have hp := h1.2
        simp only [allp, Bool.and_eq_true] at hp
        have r0 : rd a 0 = vp a 0 := if_pos hp.1
        have ey : yr13 a = (if 50 ≤ vp a 0 then 19 else 20) * 100 + vp a 0 := by unfold yr13; rw [r0]; split <;> omega
        have r1 : rd a 1 = vp a 1 := if_pos hp.2.1
        have r2 : rd a 2 = vp a 2 := if_pos hp.2.2.1
        have r3 : rd a 3 = vp a 3 := if_pos hp.2.2.2.1
        have r4 : rd a 4 = vp a 4 := if_pos hp.2.2.2.2.1
        have r5 : rd a 5 = vp a 5 := if_pos hp.2.2.2.2.2.1
        exact ⟨_, _, _, _, _, _, rfl, by rw [ey, r1, r2, r3, r4, r5]⟩
      · rw [if_neg hc]
        left
        refine ⟨?_, rfl⟩
        by_cases h1 : a.getD 12 0 = 90 ∧ allp a 0 6 = true
        · rw [if_pos h1, if_neg (fun h2 => hc (key.2 ⟨rfl, h1, h2⟩))]
        · rw [if_neg h1]
    · rw [pRead_bad 1000 mk a (by rintro (⟨h, _⟩ | ⟨_, h⟩); exact hmk h; omega), if_neg (fun h => hmk (key.1 h).1)]
      exact ⟨_, _, rfl, rfl, .inl ⟨rfl, rfl⟩⟩
  · by_cases h15 : a.length = 15
    · rw [rRead_15 1000 mk a h15]
      have key : (okT mk (yr15 a) (rd a 2) (rd a 3) (rd a 4) (rd a 5) (rd a 6) ∧ two2 (numsZ (yr15 a) (rd a 2) (rd a 3) (rd a 4) (rd a 5) (rd a 6)) ++ [90] = a) ↔
          (mk = 24 ∧ (a.getD 14 0 = 90 ∧ allp a 0 7 = true) ∧ okT 24 (vp a 0 * 100 + vp a 1) (vp a 2) (vp a 3) (vp a 4) (vp a 5) (vp a 6)) := by
        have same : allp a 0 7 = true → yr15 a = vp a 0 * 100 + vp a 1 ∧ rd a 2 = vp a 2 ∧ rd a 3 = vp a 3 ∧ rd a 4 = vp a 4 ∧ rd a 5 = vp a 5 ∧ rd a 6 = vp a 6 ∧ (0 ≤ vp a 0 ∧ vp a 0 ≤ 99) ∧ (0 ≤ vp a 1 ∧ vp a 1 ≤ 99) := by
          intro hp
          simp only [allp, Bool.and_eq_true] at hp
          have r0 : rd a 0 = vp a 0 := if_pos hp.1
          have r1 : rd a 1 = vp a 1 := if_pos hp.2.1
          refine ⟨?_, if_pos hp.2.2.1, if_pos hp.2.2.2.1, if_pos hp.2.2.2.2.1, if_pos hp.2.2.2.2.2.1, if_pos hp.2.2.2.2.2.2.1, vp_b hp.1, vp_b hp.2.1⟩
          unfold yr15; rw [r0, r1]; omega
        constructor
        · rintro ⟨⟨hok, hmk⟩, ht⟩
          have h100 := nums_100 hok
          have hlen := congrArg List.length ht
          rw [List.length_append, two_len, h15] at hlen
          by_cases hy : 1950 ≤ yr15 a ∧ yr15 a < 2050
          · unfold numsZ at hlen; rw [if_pos hy] at hlen; simp at hlen
          · unfold numsZ at ht h100
            rw [if_neg hy] at ht h100
            obtain ⟨hp, hz, _⟩ := (two7 h15 h100).1 ht
            obtain ⟨e0, e1, e2, e3, e4, e5, _⟩ := same hp
            have hm : markZ (yr15 a) = 24 := by unfold markZ; rw [if_neg hy]
            rw [hm] at hmk
            refine ⟨hmk.symm, ⟨hz, hp⟩, ?_, ?_⟩
            · rw [← e0, ← e1, ← e2, ← e3, ← e4, ← e5]; exact hok
            · rw [← e0]; exact hm
        · rintro ⟨rfl, ⟨hz, hp⟩, hok, hm⟩
          obtain ⟨e0, e1, e2, e3, e4, e5, b0, b1⟩ := same hp
          rw [← e0] at hm
          rw [← e0, ← e1, ← e2, ← e3, ← e4, ← e5] at hok
          refine ⟨⟨hok, hm⟩, ?_⟩
          have hy : ¬ (1950 ≤ yr15 a ∧ yr15 a < 2050) := by
            intro hy
            unfold markZ at hm; rw [if_pos hy] at hm; exact absurd hm (by decide)
          have h100 := nums_100 hok
          unfold numsZ at h100 ⊢
          rw [if_neg hy] at h100 ⊢
          refine (two7 h15 h100).2 ⟨hp, hz, ?_, ?_, e1, e2, e3, e4, e5⟩
          · rw [e0]; omega
          · rw [e0]; omega
      by_cases hmk : mk = 24
      · subst hmk
        rw [pRead_24 (by decide) a h15]
        refine ⟨_, _, rfl, rfl, ?_⟩
        by_cases hc : okT 24 (yr15 a) (rd a 2) (rd a 3) (rd a 4) (rd a 5) (rd a 6) ∧ two2 (numsZ (yr15 a) (rd a 2) (rd a 3) (rd a 4) (rd a 5) (rd a 6)) ++ [90] = a
        · obtain ⟨_, h1, h2⟩ := key.1 hc
          rw [if_pos hc, if_pos h1, if_pos h2]
          right
          have hp := h1.2
          simp only [allp, Bool.and_eq_true] at hp
          have r0 : rd a 0 = vp a 0 := if_pos hp.1
          have r1 : rd a 1 = vp a 1 := if_pos hp.2.1
          have ey : yr15 a = vp a 0 * 100 + vp a 1 := by unfold yr15; rw [r0, r1]; omega
          have r2 : rd a 2 = vp a 2 := if_pos hp.2.2.1
          have r3 : rd a 3 = vp a 3 := if_pos hp.2.2.2.1
          have r4 : rd a 4 = vp a 4 := if_pos hp.2.2.2.2.1
          have r5 : rd a 5 = vp a 5 := if_pos hp.2.2.2.2.2.1
          have r6 : rd a 6 = vp a 6 := if_pos hp.2.2.2.2.2.2.1
          exact ⟨_, _, _, _, _, _, rfl, by rw [ey, r2, r3, r4, r5, r6]⟩
        · rw [if_neg hc]
          left
          refine ⟨?_, rfl⟩
          by_cases h1 : a.getD 14 0 = 90 ∧ allp a 0 7 = true
          · rw [if_pos h1, if_neg (fun h2 => hc (key.2 ⟨rfl, h1, h2⟩))]
          · rw [if_neg h1]
      · rw [pRead_bad 1000 mk a (by rintro (⟨_, h⟩ | ⟨h, _⟩); omega; exact hmk h), if_neg (fun h => hmk (key.1 h).1)]
        exact ⟨_, _, rfl, rfl, .inl ⟨rfl, rfl⟩⟩
    · rw [pRead_bad 1000 mk a (by omega), rRead_bad 1000 mk a h13 h15]
      exact ⟨_, _, rfl, rfl, .inl ⟨rfl, rfl⟩⟩
theorem lTimes_j1_is (mk : UInt8) (a : List UInt8) : lTimes_j1 1000 mk a true = some true := by
  obtain ⟨r, q, h1, h2, h3⟩ := read_alike mk a
  unfold lTimes_j1
  rw [h1, Option.bind_some, h2, Option.bind_some]
  rcases h3 with ⟨rfl, rfl⟩ | ⟨y, m, d, h, i, s, rfl, rfl⟩
  · rw [ite_t (by rfl), cond_true, gd_pos (by simp)]; rfl
  · simp
theorem lTimes_j2_is (mk : UInt8) (a : List UInt8) : lTimes_j2 1000 mk a true = some true := by
  obtain ⟨r, q, h1, h2, h3⟩ := read_alike mk a
  unfold lTimes_j2
  rw [h1, Option.bind_some, h2, Option.bind_some]
  rcases h3 with ⟨rfl, rfl⟩ | ⟨y, m, d, h, i, s, rfl, rfl⟩
  · rw [ite_t (by rfl), cond_true, gd_pos (by simp)]; rfl
  · simp
theorem up8_u : pup 1000 = some true := by decide +kernel
theorem lTimes_is (y m d h i s : Int) (mk : UInt8) (a : List UInt8) : lTimes 1000 y m d h i s mk a = some true := by
  unfold lTimes
  rw [up8_u, Option.bind_some, pTime_is (by decide), Option.bind_some, rmay_is, Option.bind_some]
  by_cases hv : okZ y m d h i s
  · rw [if_pos hv, decide_eq_true hv, ite_f (by rfl), cond_true, rTime_is 1000 hv, Option.bind_some, ite_f (by rfl), ite_f (by simp), ite_f (by simp)]
    exact lTimes_j2_is mk a
  · rw [if_neg hv, decide_eq_false hv, ite_t (by rfl), gd_pos (by simp), ite_f (by rfl), ite_f (by rfl), ite_f (by rfl), cond_false]
    exact lTimes_j1_is mk a
end Go.Sx
namespace Go.Proofs.Ytliilihbnhdemaa
open Go.RowKit Go.Ch Go.Sx
theorem primTimes_c (w : World) (t0_0 t0_1 t0_2 t0_3 t0_4 t0_5 : Int) (n1 : Int) (hn1 : (Lit.int .u8 n1).wf = true) (B2 : Nat) (v2 : Value) (l2 : List UInt8) (hv2 : Sl w B2 v2 (l2.map bU)) :
    Calls Try.prog 7 #[.agg #[.int .i64 t0_0, .int .i64 t0_1, .int .i64 t0_2, .int .i64 t0_3, .int .i64 t0_4, .int .i64 t0_5], .int .u8 n1, v2] w (Ret fun v' w' => Ext w w' ∧ v' = .bool true) := by
  obtain ⟨x1, rfl⟩ : ∃ x : UInt8, n1 = ((x.toNat : Nat) : Int) := ⟨UInt8.ofNat n1.toNat, by simp [Lit.wf, IntKind.min, IntKind.max, IntKind.signed, IntKind.bits] at hn1; simp; omega⟩
  obtain ⟨p2, a2, b2⟩ := in_b hv2 5
  exact law_of (lTimes_ok 1000 true) (args := [.g 6 (.c [.s (.k .i64 t0_0), .s (.k .i64 t0_1), .s (.k .i64 t0_2), .s (.k .i64 t0_3), .s (.k .i64 t0_4), .s (.k .i64 t0_5)]), .c (.s (.u8 x1)), .c (.wh 0)]) (H := [⟨.ro false, 5, 1, l2.length, .b l2⟩]) (ρ := plL [p2]) (vals := [.agg #[.int .i64 t0_0, .int .i64 t0_1, .int .i64 t0_2, .int .i64 t0_3, .int .i64 t0_4, .int .i64 t0_5], .int .u8 ((x1.toNat : Nat) : Int), v2]) rfl (allP_cons.2 ⟨lTimes_is t0_0 t0_1 t0_2 t0_3 t0_4 t0_5 x1 l2, allP_nil⟩) trivial (hpL (ps := [p2]) (F2.cons b2 F2.nil)) (F2.cons ⟨[Value.int .i64 t0_0, Value.int .i64 t0_1, Value.int .i64 t0_2, Value.int .i64 t0_3, Value.int .i64 t0_4, Value.int .i64 t0_5], (F2.cons rfl (F2.cons rfl (F2.cons rfl (F2.cons rfl (F2.cons rfl (F2.cons rfl F2.nil)))))), rfl, rfl⟩ (F2.cons rfl (F2.cons a2 F2.nil)))
end Go.Proofs.Ytliilihbnhdemaa
end
