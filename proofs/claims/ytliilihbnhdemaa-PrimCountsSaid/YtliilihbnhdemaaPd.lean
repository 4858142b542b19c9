import Derived.Test.YtliilihbnhdemaaPu
import Derived.Test.YtliilihbnhdemaaPc
set_option linter.unusedVariables false
set_option linter.unusedSimpArgs false
namespace Go.Sx
open Go Go.RowKit Go.Ch Go.Proofs.Ytliilihbnhdemaa
/-! ### moments -/
def leapZ (y : Int) : Bool := y % 4 == 0 && (y % 100 != 0 || y % 400 == 0)
def daysZ (y m : Int) : Int := if m = 4 ∨ m = 6 ∨ m = 9 ∨ m = 11 then 30 else if m = 2 then (if leapZ y then 29 else 28) else 31
def okZ (y m d h i s : Int) : Prop := 1 ≤ y ∧ y ≤ 9999 ∧ 1 ≤ m ∧ m ≤ 12 ∧ 1 ≤ d ∧ d ≤ daysZ y m ∧ 0 ≤ h ∧ h ≤ 23 ∧ 0 ≤ i ∧ i ≤ 59 ∧ 0 ≤ s ∧ s ≤ 59
instance (y m d h i s : Int) : Decidable (okZ y m d h i s) := by unfold okZ; infer_instance
def aheadZ (y : Int) : Int := 365 * (y - 1) + (y - 1) / 4 - (y - 1) / 100 + (y - 1) / 400
def msum (y : Int) : Nat → Int
  | 0 => 0
  | m + 1 => msum y m + daysZ y ((m : Int) + 1)
def countZ (y m d h i s : Int) : Int := (aheadZ y + (d - 1) + msum y (m - 1).toNat) * 86400 + (h * 3600 + i * 60 + s)
theorem daysZ_b (y m : Int) : 28 ≤ daysZ y m ∧ daysZ y m ≤ 31 := by unfold daysZ; split <;> (try split) <;> (try split) <;> omega
theorem ahead_succ {y : Int} (h : 1 ≤ y) : aheadZ (y + 1) = aheadZ y + 365 + (if leapZ y then 1 else 0) := by
  unfold aheadZ leapZ
  have e : (y % 4 == 0 && (y % 100 != 0 || y % 400 == 0)) = decide (y % 4 = 0 ∧ (y % 100 ≠ 0 ∨ y % 400 = 0)) := by
    rw [Bool.eq_iff_iff]; simp
  rw [e]
  by_cases h1 : y % 4 = 0 ∧ (y % 100 ≠ 0 ∨ y % 400 = 0)
  · rw [decide_eq_true h1, if_pos rfl]; omega
  · rw [decide_eq_false h1, if_neg (by decide)]; omega
theorem msum_13 (y : Int) : msum y 12 = 365 + (if leapZ y then 1 else 0) := by
  simp only [msum, daysZ]
  cases leapZ y <;> simp
theorem msum_b (y : Int) : ∀ m : Nat, 0 ≤ msum y m ∧ msum y m ≤ 31 * m := by
  intro m
  induction m with
  | zero => simp [msum]
  | succ m ih =>
    have := daysZ_b y ((m : Int) + 1)
    simp only [msum]; omega
theorem ahead_b {y : Int} (h1 : 1 ≤ y) (h2 : y ≤ 10000) : 0 ≤ aheadZ y ∧ aheadZ y ≤ 3652059 := by unfold aheadZ; omega
theorem ahead_mono {x y : Int} (h0 : 1 ≤ x) (h : x ≤ y) : aheadZ x + 365 * (y - x) ≤ aheadZ y := by
  obtain ⟨k, rfl⟩ : ∃ k : Nat, y = x + k := ⟨(y - x).toNat, by omega⟩
  clear h
  induction k with
  | zero => simp
  | succ k ih =>
    have := ahead_succ (y := x + k) (by omega)
    rw [show x + ((k + 1 : Nat) : Int) = x + k + 1 by omega, this]
    split <;> omega
theorem leap_is (n : Nat) {y : Int} (h : 0 ≤ y) : pleap n y = some (leapZ y) := by
  unfold pleap leapZ
  rw [Int.tmod_eq_emod_of_nonneg h, Int.tmod_eq_emod_of_nonneg h, Int.tmod_eq_emod_of_nonneg h, gd_pos (by decide), gd_pos (by decide), gd_pos (by decide)]
  cases (y % 4 == 0) <;> cases (y % 100 != 0) <;> rfl
theorem days_is (n : Nat) {y m : Int} (h : 0 ≤ y) : pdays n y m = some (daysZ y m) := by
  unfold pdays pdays_j1 daysZ
  rw [leap_is n h]
  by_cases h4 : m = 4
  · subst h4; rfl
  · by_cases h6 : m = 6
    · subst h6; rfl
    · by_cases h9 : m = 9
      · subst h9; rfl
      · by_cases h11 : m = 11
        · subst h11; rfl
        · by_cases h2 : m = 2
          · subst h2; cases leapZ y <;> rfl
          · rw [beq_eq_false_iff_ne.2 h4, beq_eq_false_iff_ne.2 h6, beq_eq_false_iff_ne.2 h9, beq_eq_false_iff_ne.2 h11, beq_eq_false_iff_ne.2 h2]; simp [h4, h6, h9, h11, h2]
theorem valid_is (n : Nat) (y m d h i s : Int) : pvalid n y m d h i s = some (decide (okZ y m d h i s)) := by
  unfold pvalid
  by_cases h1 : 1 ≤ y
  · rw [ite_f (by simp; omega)]
    by_cases h2 : y ≤ 9999
    · rw [ite_f (by simp; omega)]
      by_cases h3 : 1 ≤ m
      · rw [ite_f (by simp; omega)]
        by_cases h4 : m ≤ 12
        · rw [ite_f (by simp; omega)]
          by_cases h5 : 1 ≤ d
          · rw [ite_f (by simp; omega), days_is n (by omega), Option.bind_some]
            by_cases h6 : d ≤ daysZ y m
            · rw [ite_f (by simp; omega)]
              by_cases h7 : 0 ≤ h <;> by_cases h8 : h ≤ 23 <;> by_cases h9 : 0 ≤ i <;> by_cases h10 : i ≤ 59 <;> by_cases h11 : 0 ≤ s <;> by_cases h12 : s ≤ 59 <;> simp [okZ, h1, h2, h3, h4, h5, h6, h7, h8, h9, h10, h11, h12]
            · rw [ite_t (by simp; omega), decide_eq_false (fun hh => h6 hh.2.2.2.2.2.1)]
          · rw [ite_t (by simp; omega), decide_eq_false (fun hh => h5 hh.2.2.2.2.1)]
        · rw [ite_t (by simp; omega), decide_eq_false (fun hh => h4 hh.2.2.2.1)]
      · rw [ite_t (by simp; omega), decide_eq_false (fun hh => h3 hh.2.2.1)]
    · rw [ite_t (by simp; omega), decide_eq_false (fun hh => h2 hh.2.1)]
  · rw [ite_t (by simp; omega), decide_eq_false (fun hh => h1 hh.1)]
theorem ahead_is (n : Nat) {y : Int} (h1 : 1 ≤ y) (h2 : y ≤ 10001) : pahead n y = some (aheadZ y) := by
  unfold pahead aheadZ
  rw [Int.tdiv_eq_ediv_of_nonneg (show 0 ≤ y - 1 by omega), Int.tdiv_eq_ediv_of_nonneg (show 0 ≤ y - 1 by omega), Int.tdiv_eq_ediv_of_nonneg (show 0 ≤ y - 1 by omega)]
  rw [gd_pos (okI64 (by omega) (by omega)), gd_pos (okI64 (by omega) (by omega)), gd_pos (by decide), gd_pos (okI64 (by omega) (by omega)), gd_pos (okI64 (by omega) (by omega)), gd_pos (by decide), gd_pos (okI64 (by omega) (by omega)), gd_pos (okI64 (by omega) (by omega)), gd_pos (by decide), gd_pos (okI64 (by omega) (by omega)), gd_pos (okI64 (by omega) (by omega))]
theorem count_b {y m d h i s : Int} (hv : okZ y m d h i s) : 0 ≤ aheadZ y + (d - 1) + msum y (m - 1).toNat ∧ aheadZ y + (d - 1) + msum y (m - 1).toNat ≤ 4000000 := by
  obtain ⟨h1, h2, h3, h4, h5, h6, h7, h8, h9, h10, h11, h12⟩ := hv
  have := ahead_b h1 (by omega)
  have := msum_b y (m - 1).toNat
  have := daysZ_b y m
  omega
theorem pCount_l1_is (n : Nat) {y m d h i s : Int} (hv : okZ y m d h i s) : ∀ (k j fu : Nat), j + k = (m - 1).toNat → k < fu →
    pCount_l1 n y m d h i s fu (aheadZ y + (d - 1) + msum y j) ((j : Int) + 1) = some (countZ y m d h i s, none) := by
  have hb := count_b hv
  obtain ⟨h1, h2, h3, h4, h5, h6, h7, h8, h9, h10, h11, h12⟩ := hv
  have ha := ahead_b h1 (by omega)
  have hd := daysZ_b y m
  intro k
  induction k with
  | zero =>
    intro j fu hj hf
    cases fu with
    | zero => omega
    | succ fu =>
      obtain rfl : j = (m - 1).toNat := by omega
      rw [pCount_l1, ite_f (by simp; omega), gd_pos (okI64 (by omega) (by omega)), gd_pos (okI64 (by omega) (by omega)), gd_pos (okI64 (by omega) (by omega)), gd_pos (okI64 (by omega) (by omega)), gd_pos (okI64 (by omega) (by omega)), gd_pos (okI64 (by omega) (by omega))]
      rfl
  | succ k ih =>
    intro j fu hj hf
    cases fu with
    | zero => omega
    | succ fu =>
      have hm := msum_b y j
      have hdd := daysZ_b y ((j : Int) + 1)
      rw [pCount_l1, ite_t (by simp; omega), days_is n (by omega), Option.bind_some, gd_pos (okI64 (by omega) (by omega)), gd_pos (okI64 (by omega) (by omega))]
      have := ih (j + 1) fu (by omega) (by omega)
      simp only [msum] at this
      rw [show aheadZ y + (d - 1) + msum y j + daysZ y ((j : Int) + 1) = aheadZ y + (d - 1) + (msum y j + daysZ y ((j : Int) + 1)) by omega, show (j : Int) + 1 + 1 = ((j + 1 : Nat) : Int) + 1 by omega]
      exact this
theorem pCount_is {n : Nat} (hn : 100 ≤ n) (y m d h i s : Int) : pCount n y m d h i s = some (if okZ y m d h i s then (countZ y m d h i s, none) else (0, some 1)) := by
  unfold pCount
  rw [valid_is, Option.bind_some]
  by_cases hv : okZ y m d h i s
  · have ha := ahead_b hv.1 (by have := hv.2.1; omega)
    have hb := daysZ_b y m
    have hd := hv.2.2.2.2
    rw [if_pos hv, ite_f (by simp [hv]), ahead_is n hv.1 (by have := hv.2.1; omega), Option.bind_some, gd_pos (okI64 (by omega) (by omega)), gd_pos (okI64 (by omega) (by omega))]
    have := pCount_l1_is n hv (m - 1).toNat 0 n (by omega) (by have := hv.2.2.2.1; omega)
    simp only [msum, Int.add_zero] at this
    exact this
  · rw [if_neg hv, ite_t (by simp [hv])]
theorem rleap_is (n : Nat) {y : Int} (h : 0 ≤ y) : rLeap n y = some (leapZ y) := by
  unfold rLeap leapZ
  rw [Int.tmod_eq_emod_of_nonneg h, Int.tmod_eq_emod_of_nonneg h, Int.tmod_eq_emod_of_nonneg h, gd_pos (by decide), gd_pos (by decide), gd_pos (by decide)]
  by_cases h4 : y % 400 = 0
  · have : y % 4 = 0 := by omega
    rw [ite_t (by rw [h4]; rfl), this, h4]; simp
  · rw [ite_f (by simpa using h4)]
    have e : (y % 400 == 0) = false := by simpa using h4
    rw [e]
    cases (y % 4 == 0) <;> cases (y % 100 != 0) <;> rfl
theorem rdays_is (n : Nat) {y m : Int} (h : 0 ≤ y) : rDays n y m = some (daysZ y m) := by
  unfold rDays daysZ
  rw [rleap_is n h]
  by_cases h2 : m = 2
  · subst h2; cases leapZ y <;> rfl
  · by_cases h4 : m = 4
    · subst h4; rfl
    · by_cases h6 : m = 6
      · subst h6; rfl
      · by_cases h9 : m = 9
        · subst h9; rfl
        · by_cases h11 : m = 11
          · subst h11; rfl
          · rw [beq_eq_false_iff_ne.2 h4, beq_eq_false_iff_ne.2 h6, beq_eq_false_iff_ne.2 h9, beq_eq_false_iff_ne.2 h11, beq_eq_false_iff_ne.2 h2]; simp [h4, h6, h9, h11, h2]
theorem rmay_is (n : Nat) (y m d h i s : Int) : rMay8 n y m d h i s = some (decide (okZ y m d h i s)) := by
  unfold rMay8
  by_cases h1 : 1 ≤ y
  · rw [ite_f (by simp; omega)]
    by_cases h2 : y ≤ 9999
    · rw [ite_f (by simp; omega)]
      by_cases h3 : 1 ≤ m
      · rw [ite_f (by simp; omega)]
        by_cases h4 : m ≤ 12
        · rw [ite_f (by simp; omega)]
          by_cases h5 : 1 ≤ d
          · rw [ite_f (by simp; omega)]
            by_cases h7 : 0 ≤ h
            · rw [ite_f (by simp; omega)]
              by_cases h9 : 0 ≤ i
              · rw [ite_f (by simp; omega)]
                by_cases h11 : 0 ≤ s
                · rw [ite_f (by simp; omega), rdays_is n (by omega), Option.bind_some, show decide (h < (24 : Int)) = decide (h ≤ 23) by rw [Bool.eq_iff_iff]; simp; omega, show decide (i < (60 : Int)) = decide (i ≤ 59) by rw [Bool.eq_iff_iff]; simp; omega, show decide (s < (60 : Int)) = decide (s ≤ 59) by rw [Bool.eq_iff_iff]; simp; omega]
                  by_cases h6 : d ≤ daysZ y m <;> by_cases h8 : h ≤ 23 <;> by_cases h10 : i ≤ 59 <;> by_cases h12 : s ≤ 59 <;> simp [okZ, h1, h2, h3, h4, h5, h6, h7, h8, h9, h10, h11, h12]
                · rw [ite_t (by simp; omega), decide_eq_false (fun hh => h11 hh.2.2.2.2.2.2.2.2.2.2.1)]
              · rw [ite_t (by simp; omega), decide_eq_false (fun hh => h9 hh.2.2.2.2.2.2.2.2.1)]
            · rw [ite_t (by simp; omega), decide_eq_false (fun hh => h7 hh.2.2.2.2.2.2.1)]
          · rw [ite_t (by simp; omega), decide_eq_false (fun hh => h5 hh.2.2.2.2.1)]
        · rw [ite_t (by simp; omega), decide_eq_false (fun hh => h4 hh.2.2.2.1)]
      · rw [ite_t (by simp; omega), decide_eq_false (fun hh => h3 hh.2.2.1)]
    · rw [ite_t (by simp; omega), decide_eq_false (fun hh => h2 hh.2.1)]
  · rw [ite_t (by simp; omega), decide_eq_false (fun hh => h1 hh.1)]
theorem rCount_l2_is (n : Nat) {y m d h i s : Int} (hv : okZ y m d h i s) : ∀ (k j fu : Nat), j + k = (m - 1).toNat → k < fu →
    rCount_l2 n y m d h i s fu (aheadZ y + msum y j) ((j : Int) + 1) = some (countZ y m d h i s) := by
  have hb := count_b hv
  obtain ⟨h1, h2, h3, h4, h5, h6, h7, h8, h9, h10, h11, h12⟩ := hv
  have ha := ahead_b h1 (by omega)
  have hd := daysZ_b y m
  intro k
  induction k with
  | zero =>
    intro j fu hj hf
    cases fu with
    | zero => omega
    | succ fu =>
      obtain rfl : j = (m - 1).toNat := by omega
      rw [rCount_l2, ite_f (by simp; omega), gd_pos (okI64 (by omega) (by omega)), gd_pos (okI64 (by omega) (by omega)), gd_pos (okI64 (by omega) (by omega)), gd_pos (okI64 (by omega) (by omega)), gd_pos (okI64 (by omega) (by omega)), gd_pos (okI64 (by omega) (by omega)), gd_pos (okI64 (by omega) (by omega)), gd_pos (okI64 (by omega) (by omega))]
      unfold countZ
      congr 1; omega
  | succ k ih =>
    intro j fu hj hf
    cases fu with
    | zero => omega
    | succ fu =>
      have hm := msum_b y j
      have hdd := daysZ_b y ((j : Int) + 1)
      rw [rCount_l2, ite_t (by simp; omega), rdays_is n (by omega), Option.bind_some, gd_pos (okI64 (by omega) (by omega)), gd_pos (okI64 (by omega) (by omega))]
      have := ih (j + 1) fu (by omega) (by omega)
      simp only [msum] at this
      rw [show aheadZ y + msum y j + daysZ y ((j : Int) + 1) = aheadZ y + (msum y j + daysZ y ((j : Int) + 1)) by omega, show (j : Int) + 1 + 1 = ((j + 1 : Nat) : Int) + 1 by omega]
      exact this
theorem rCount_l1_is {n : Nat} (hn : 100 ≤ n) {y m d h i s : Int} (hv : okZ y m d h i s) : ∀ (k fu : Nat) (x : Int), x + k = y → 1 ≤ x → k < fu →
    rCount_l1 n y m d h i s fu (aheadZ x) x = some (countZ y m d h i s) := by
  intro k
  induction k with
  | zero =>
    intro fu x hx h1 hf
    cases fu with
    | zero => omega
    | succ fu =>
      obtain rfl : x = y := by omega
      rw [rCount_l1, ite_f (by simp)]
      have := rCount_l2_is n hv (m - 1).toNat 0 n (by omega) (by have := hv.2.2.2.1; omega)
      simp only [msum, Int.add_zero] at this
      exact this
  | succ k ih =>
    intro fu x hx h1 hf
    cases fu with
    | zero => omega
    | succ fu =>
      have hy := hv.2.1
      have ha := ahead_b h1 (by omega)
      have hs := ahead_succ h1
      rw [rCount_l1, ite_t (by simp; omega), gd_pos (okI64 (by omega) (by omega)), rleap_is n (by omega), Option.bind_some]
      unfold rCount_j1
      cases hl : leapZ x with
      | true =>
        rw [hl, if_pos rfl] at hs
        rw [ite_t rfl, gd_pos (okI64 (by omega) (by omega)), gd_pos (okI64 (by omega) (by omega)), ← hs]
        exact ih fu (x + 1) (by omega) (by omega) (by omega)
      | false =>
        rw [hl, if_neg (by decide), Int.add_zero] at hs
        rw [ite_f rfl, gd_pos (okI64 (by omega) (by omega)), ← hs]
        exact ih fu (x + 1) (by omega) (by omega) (by omega)
theorem rCount_is {n : Nat} (hn : 20000 ≤ n) {y m d h i s : Int} (hv : okZ y m d h i s) : rCount n y m d h i s = some (countZ y m d h i s) := by
  have := hv.1
  have := hv.2.1
  exact rCount_l1_is (by omega) hv (y - 1).toNat n 1 (by omega) (by omega) (by omega)
theorem pAt_l1_is (n : Nat) {c y : Int} (hy1 : 1 ≤ y) (hy2 : y ≤ 9999) (hc0 : 0 ≤ c) (hc2 : c < 400000000000) (hlo : aheadZ y ≤ c / 86400) (hhi : c / 86400 < aheadZ (y + 1)) : ∀ (k j fu : Nat), j + k = 11 → k < fu → 0 ≤ c / 86400 - aheadZ y - msum y j →
    ∃ m d h i s, pAt_l1 n c y fu (c / 86400 - aheadZ y - msum y j) ((j : Int) + 1) = some (y, m, d, h, i, s, none) ∧ okZ y m d h i s ∧ countZ y m d h i s = c := by
  have hs := ahead_succ hy1
  have hm13 := msum_13 y
  have ha := ahead_b hy1 (by omega)
  have t0 : Int.tmod c 86400 = c % 86400 := Int.tmod_eq_emod_of_nonneg hc0
  have t1 : Int.tdiv (c % 86400) 3600 = c % 86400 / 3600 := Int.tdiv_eq_ediv_of_nonneg (by omega)
  have t2 : Int.tdiv (c % 86400) 60 = c % 86400 / 60 := Int.tdiv_eq_ediv_of_nonneg (by omega)
  have t3 : Int.tmod (c % 86400 / 60) 60 = c % 86400 / 60 % 60 := Int.tmod_eq_emod_of_nonneg (by omega)
  have t4 : Int.tmod (c % 86400) 60 = c % 86400 % 60 := Int.tmod_eq_emod_of_nonneg (by omega)
  have fin : ∀ (j : Nat) (fu : Nat), j ≤ 11 → 0 ≤ c / 86400 - aheadZ y - msum y j → c / 86400 - aheadZ y - msum y j < daysZ y ((j : Int) + 1) →
      ∃ m d h i s, pAt_l1 n c y (fu + 1) (c / 86400 - aheadZ y - msum y j) ((j : Int) + 1) = some (y, m, d, h, i, s, none) ∧ okZ y m d h i s ∧ countZ y m d h i s = c := by
    intro j fu hj h0 hlt
    have hdd := daysZ_b y ((j : Int) + 1)
    refine ⟨(j : Int) + 1, c / 86400 - aheadZ y - msum y j + 1, c % 86400 / 3600, c % 86400 / 60 % 60, c % 86400 % 60, ?_, ⟨hy1, hy2, by omega, by omega, by omega, by omega, by omega, by omega, by omega, by omega, by omega, by omega⟩, ?_⟩
    · rw [pAt_l1, days_is n (by omega), Option.bind_some, ite_f (by simp; omega), t0, t1, t2, t3, t4, gd_pos (okI64 (by omega) (by omega)), gd_pos (by decide), gd_pos (okI64 (by omega) (by omega)), gd_pos (by decide), gd_pos (okI64 (by omega) (by omega)), gd_pos (by decide), gd_pos (by decide)]
    · unfold countZ
      have e : ((j : Int) + 1 - 1).toNat = j := by omega
      rw [e]; omega
  intro k
  induction k with
  | zero =>
    intro j fu hj hf h0
    cases fu with
    | zero => omega
    | succ fu =>
      obtain rfl : j = 11 := by omega
      refine fin 11 fu (by omega) h0 ?_
      have e : msum y 12 = msum y 11 + daysZ y (((11 : Nat) : Int) + 1) := rfl
      rw [hm13] at e
      split at hs <;> split at e <;> first | omega | contradiction
  | succ k ih =>
    intro j fu hj hf h0
    cases fu with
    | zero => omega
    | succ fu =>
      by_cases hlt : c / 86400 - aheadZ y - msum y j < daysZ y ((j : Int) + 1)
      · exact fin j fu (by omega) h0 hlt
      · have hdd := daysZ_b y ((j : Int) + 1)
        have hmb := msum_b y j
        rw [pAt_l1, days_is n (by omega), Option.bind_some, ite_t (by simp; omega), Option.bind_some, gd_pos (okI64 (by omega) (by omega)), gd_pos (okI64 (by omega) (by omega))]
        have := ih (j + 1) fu (by omega) (by omega) (by simp only [msum]; omega)
        simp only [msum] at this
        rw [show c / 86400 - aheadZ y - msum y j - daysZ y ((j : Int) + 1) = c / 86400 - aheadZ y - (msum y j + daysZ y ((j : Int) + 1)) by omega, show (j : Int) + 1 + 1 = ((j + 1 : Nat) : Int) + 1 by omega]
        exact this
theorem pAt_l2_is {n : Nat} (hn : 100 ≤ n) {c : Int} (hc0 : 0 ≤ c) (hc : c / 86400 < aheadZ 10000) : ∀ (k fu : Nat) (y : Int), y + k = 9999 → 1 ≤ y → k < fu → aheadZ y ≤ c / 86400 →
    ∃ y' m d h i s, pAt_l2 n c fu y = some (y', m, d, h, i, s, none) ∧ okZ y' m d h i s ∧ countZ y' m d h i s = c := by
  have hc3 : aheadZ 10000 = 3652059 := by decide
  have t0 : Int.tdiv c 86400 = c / 86400 := Int.tdiv_eq_ediv_of_nonneg hc0
  have fin : ∀ (fu : Nat) (y : Int), 1 ≤ y → y ≤ 9999 → aheadZ y ≤ c / 86400 → c / 86400 < aheadZ (y + 1) → ∃ y' m d h i s, pAt_l2 n c (fu + 1) y = some (y', m, d, h, i, s, none) ∧ okZ y' m d h i s ∧ countZ y' m d h i s = c := by
    intro fu y h1 h2 hlo hhi
    have ha := ahead_b h1 (by omega)
    obtain ⟨m, d, h, i, s, k1, k2, k3⟩ := pAt_l1_is n h1 h2 hc0 (by omega) hlo hhi 11 0 n rfl (by omega) (by simp only [msum]; omega)
    refine ⟨y, m, d, h, i, s, ?_, k2, k3⟩
    rw [pAt_l2, gd_pos (okI64 (by omega) (by omega)), ahead_is n (by omega) (by omega), Option.bind_some, t0, ite_f (by simp; omega)]
    unfold pAt_j1
    rw [ahead_is n h1 (by omega), Option.bind_some, t0, gd_pos (okI64 (by omega) (by omega))]
    simp only [msum, Int.sub_zero] at k1
    exact k1
  intro k
  induction k with
  | zero =>
    intro fu y hk h1 hf hlo
    cases fu with
    | zero => omega
    | succ fu =>
      obtain rfl : y = 9999 := by omega
      exact fin fu 9999 (by omega) (by omega) hlo hc
  | succ k ih =>
    intro fu y hk h1 hf hlo
    cases fu with
    | zero => omega
    | succ fu =>
      by_cases hlt : c / 86400 < aheadZ (y + 1)
      · exact fin fu y h1 (by omega) hlo hlt
      · rw [pAt_l2, gd_pos (okI64 (by omega) (by omega)), ahead_is n (by omega) (by omega), Option.bind_some, t0, ite_t (by simp; omega), gd_pos (okI64 (by omega) (by omega))]
        exact ih fu (y + 1) (by omega) (by omega) (by omega) (by omega)
theorem pAt_is {n : Nat} (hn : 20000 ≤ n) (c : Int) (hc2 : c < 9223372036854775808) : (¬ (0 ≤ c ∧ c < 315537897600) ∧ pAt n c = some (0, 0, 0, 0, 0, 0, some 1)) ∨
    ((0 ≤ c ∧ c < 315537897600) ∧ ∃ y m d h i s, pAt n c = some (y, m, d, h, i, s, none) ∧ okZ y m d h i s ∧ countZ y m d h i s = c) := by
  have hc3 : aheadZ 10000 = 3652059 := by decide
  unfold pAt
  by_cases h0 : 0 ≤ c
  · rw [ite_f (by simp; omega), ahead_is n (by omega) (by omega), Option.bind_some, hc3, gd_pos (okI64 (by omega) (by omega))]
    by_cases h1 : c < 315537897600
    · right
      refine ⟨⟨h0, h1⟩, ?_⟩
      have t0 : Int.tdiv c 86400 = c / 86400 := Int.tdiv_eq_ediv_of_nonneg h0
      have t1 : Int.tdiv (c / 86400) 366 = c / 86400 / 366 := Int.tdiv_eq_ediv_of_nonneg (by omega)
      rw [ite_f (by simp; omega), t0, t1, gd_pos (by decide), gd_pos (okI64 (by omega) (by omega)), gd_pos (by decide), gd_pos (by decide), gd_pos (okI64 (by omega) (by omega)), gd_pos (okI64 (by omega) (by omega))]
      have hlo : aheadZ (c / 86400 / 366 + 1) ≤ c / 86400 := by unfold aheadZ; omega
      have hy : c / 86400 / 366 + 1 ≤ 9999 := by omega
      exact pAt_l2_is (by omega) h0 (by omega) (9999 - (c / 86400 / 366 + 1)).toNat n _ (by omega) (by omega) (by omega) hlo
    · left
      exact ⟨fun h => h1 h.2, by rw [ite_t (by simp; omega)]⟩
  · left
    exact ⟨fun h => h0 h.1, by rw [ite_t (by simp; omega)]⟩
theorem up8_big : pup 20000 = some true := by decide +kernel
theorem last_is : countZ 9999 12 31 23 59 59 = 315537897599 := by decide
theorem last_ok : okZ 9999 12 31 23 59 59 := by decide
theorem lCounts_is (y m d h i s : Int) {c : Int} (hc2 : c < 9223372036854775808) : lCounts 20000 y m d h i s c = some true := by
  unfold lCounts
  have hlast := rCount_is (n := 20000) (by decide) last_ok
  rw [last_is] at hlast
  rcases pAt_is (n := 20000) (by decide) c hc2 with ⟨hn, hat⟩ | ⟨hy, y', m', d', h', i', s', hat, hok, hco⟩
  · by_cases hv : okZ y m d h i s
    · rw [up8_big, Option.bind_some, pCount_is (by decide), if_pos hv, Option.bind_some, rmay_is, Option.bind_some, decide_eq_true hv]
      simp only [Bool.not_true, cond_false, cond_true, Option.isNone_none]
      rw [rCount_is (by decide) hv, Option.bind_some, ite_f (by simp), hat, Option.bind_some, hlast, Option.bind_some]
      by_cases h0 : c < 0
      · rw [ite_t (by simp; omega)]; rfl
      · rw [ite_f (by simp; omega), ite_t (by simp; omega)]; rfl
    · rw [up8_big, Option.bind_some, pCount_is (by decide), if_neg hv, Option.bind_some, rmay_is, Option.bind_some, decide_eq_false hv]
      simp only [Bool.not_false, cond_false, cond_true]
      rw [gd_pos (by decide), ite_f (by decide), ite_f (by decide), hat, Option.bind_some, hlast, Option.bind_some]
      by_cases h0 : c < 0
      · rw [ite_t (by simp; omega)]; rfl
      · rw [ite_f (by simp; omega), ite_t (by simp; omega)]; rfl
  · by_cases hv : okZ y m d h i s
    · rw [up8_big, Option.bind_some, pCount_is (by decide), if_pos hv, Option.bind_some, rmay_is, Option.bind_some, decide_eq_true hv]
      simp only [Bool.not_true, cond_false, cond_true, Option.isNone_none]
      rw [rCount_is (by decide) hv, Option.bind_some, ite_f (by simp), hat, Option.bind_some, hlast, Option.bind_some, ite_f (by simp; omega), ite_f (by simp; omega)]
      try dsimp only
      rw [rmay_is, decide_eq_true hok, Option.bind_some, rCount_is (by decide) hok, hco]
      simp
    · rw [up8_big, Option.bind_some, pCount_is (by decide), if_neg hv, Option.bind_some, rmay_is, Option.bind_some, decide_eq_false hv]
      simp only [Bool.not_false, cond_false, cond_true]
      rw [gd_pos (by decide), ite_f (by decide), ite_f (by decide), hat, Option.bind_some, hlast, Option.bind_some, ite_f (by simp; omega), ite_f (by simp; omega)]
      try dsimp only
      rw [rmay_is, decide_eq_true hok, Option.bind_some, rCount_is (by decide) hok, hco]
      simp
end Go.Sx
namespace Go.Proofs.Ytliilihbnhdemaa
open Go.RowKit Go.Ch Go.Sx
theorem primCounts_c (w : World) (t0_0 t0_1 t0_2 t0_3 t0_4 t0_5 : Int) (n1 : Int) (hn1 : (Lit.int .i64 n1).wf = true) :
    Calls Try.prog 5 #[.agg #[.int .i64 t0_0, .int .i64 t0_1, .int .i64 t0_2, .int .i64 t0_3, .int .i64 t0_4, .int .i64 t0_5], .int .i64 n1] w (Ret fun v' w' => Ext w w' ∧ v' = .bool true) := by
  have r1 : -9223372036854775808 ≤ n1 ∧ n1 < 9223372036854775808 := by simp [Lit.wf, IntKind.min, IntKind.max, IntKind.signed, IntKind.bits] at hn1; omega
  exact law_of (lCounts_ok 20000 true) (args := [.g 6 (.c [.s (.k .i64 t0_0), .s (.k .i64 t0_1), .s (.k .i64 t0_2), .s (.k .i64 t0_3), .s (.k .i64 t0_4), .s (.k .i64 t0_5)]), .c (.s (.k .i64 n1))]) (H := []) (ρ := plL []) (vals := [.agg #[.int .i64 t0_0, .int .i64 t0_1, .int .i64 t0_2, .int .i64 t0_3, .int .i64 t0_4, .int .i64 t0_5], .int .i64 n1]) rfl (allP_cons.2 ⟨lCounts_is _ _ _ _ _ _ r1.2, allP_nil⟩) trivial (hpL (ps := []) F2.nil) (F2.cons ⟨[Value.int .i64 t0_0, Value.int .i64 t0_1, Value.int .i64 t0_2, Value.int .i64 t0_3, Value.int .i64 t0_4, Value.int .i64 t0_5], (F2.cons rfl (F2.cons rfl (F2.cons rfl (F2.cons rfl (F2.cons rfl (F2.cons rfl F2.nil)))))), rfl, rfl⟩ (F2.cons rfl F2.nil))
end Go.Proofs.Ytliilihbnhdemaa
