import Derived.Test.YtliilihbnhdemaaPu
import Derived.Test.YtliilihbnhdemaaPl
set_option linter.unusedVariables false
set_option linter.unusedSimpArgs false
namespace Go.Sx
open Go Go.RowKit Go.Ch Go.Proofs.Ytliilihbnhdemaa
/-! ### moments -/
def leapZ (y : Int) : Bool := y % 4 == 0 && (y % 100 != 0 || y % 400 == 0)
def daysZ (y m : Int) : Int := if m = 4 ∨ m = 6 ∨ m = 9 ∨ m = 11 then 30 else if m = 2 then (if leapZ y then 29 else 28) else 31
def okZ (y m d h i s : Int) : Prop := 1 ≤ y ∧ y ≤ 9999 ∧ 1 ≤ m ∧ m ≤ 12 ∧ 1 ≤ d ∧ d ≤ daysZ y m ∧ 0 ≤ h ∧ h ≤ 23 ∧ 0 ≤ i ∧ i ≤ 59 ∧ 0 ≤ s ∧ s ≤ 59
instance (y m d h i s : Int) : Decidable (okZ y m d h i s) := by unfold okZ; infer_instance
def aheadZ (y : Int) : Int := 365 * (y - 1) + (y - 1) / 4 - (y - 1) / 100 + (y - 1) / 400
def msum (y : Int) : Nat → Int
  | 0 => 0
  | m + 1 => msum y m + daysZ y ((m : Int) + 1)
def countZ (y m d h i s : Int) : Int := (aheadZ y + (d - 1) + msum y (m - 1).toNat) * 86400 + (h * 3600 + i * 60 + s)
theorem daysZ_b (y m : Int) : 28 ≤ daysZ y m ∧ daysZ y m ≤ 31 := by unfold daysZ; split <;> (try split) <;> (try split) <;> omega
theorem ahead_succ {y : Int} (h : 1 ≤ y) : aheadZ (y + 1) = aheadZ y + 365 + (if leapZ y then 1 else 0) := by
  unfold aheadZ leapZ
  have e : (y % 4 == 0 && (y % 100 != 0 || y % 400 == 0)) = decide (y % 4 = 0 ∧ (y % 100 ≠ 0 ∨ y % 400 = 0)) := by
    rw [Bool.eq_iff_iff]; simp
  rw [e]
  by_cases h1 : y % 4 = 0 ∧ (y % 100 ≠ 0 ∨ y % 400 = 0)
  · rw [decide_eq_true h1, if_pos rfl]; omega
  · rw [decide_eq_false h1, if_neg (by decide)]; omega
theorem msum_13 (y : Int) : msum y 12 = 365 + (if leapZ y then 1 else 0) := by
  simp only [msum, daysZ]
  cases leapZ y <;> simp
theorem msum_b (y : Int) : ∀ m : Nat, 0 ≤ msum y m ∧ msum y m ≤ 31 * m := by
  intro m
  induction m with
  | zero => simp [msum]
  | succ m ih =>
    have := daysZ_b y ((m : Int) + 1)
    simp only [msum]; omega
theorem ahead_b {y : Int} (h1 : 1 ≤ y) (h2 : y ≤ 10000) : 0 ≤ aheadZ y ∧ aheadZ y ≤ 3652059 := by unfold aheadZ; omega
theorem ahead_mono {x y : Int} (h0 : 1 ≤ x) (h : x ≤ y) : aheadZ x + 365 * (y - x) ≤ aheadZ y := by
  obtain ⟨k, rfl⟩ : ∃ k : Nat, y = x + k := ⟨(y - x).toNat, by omega⟩
  clear h
  induction k with
  | zero => simp
  | succ k ih =>
    have := ahead_succ (y := x + k) (by omega)
    rw [show x + ((k + 1 : Nat) : Int) = x + k + 1 by omega, this]
    split <;> omega
theorem leap_is (n : Nat) {y : Int} (h : 0 ≤ y) : pleap n y = some (leapZ y) := by
  unfold pleap leapZ
  rw [Int.tmod_eq_emod_of_nonneg h, Int.tmod_eq_emod_of_nonneg h, Int.tmod_eq_emod_of_nonneg h, gd_pos (by decide), gd_pos (by decide), gd_pos (by decide)]
  cases (y % 4 == 0) <;> cases (y % 100 != 0) <;> rfl
theorem days_is (n : Nat) {y m : Int} (h : 0 ≤ y) : pdays n y m = some (daysZ y m) := by
  unfold pdays pdays_j1 daysZ
  rw [leap_is n h]
  by_cases h4 : m = 4
  · subst h4; rfl
  · by_cases h6 : m = 6
    · subst h6; rfl
    · by_cases h9 : m = 9
      · subst h9; rfl
      · by_cases h11 : m = 11
        · subst h11; rfl
        · by_cases h2 : m = 2
          · subst h2; cases leapZ y <;> rfl
          · rw [beq_eq_false_iff_ne.2 h4, beq_eq_false_iff_ne.2 h6, beq_eq_false_iff_ne.2 h9, beq_eq_false_iff_ne.2 h11, beq_eq_false_iff_ne.2 h2]; simp [h4, h6, h9, h11, h2]
theorem valid_is (n : Nat) (y m d h i s : Int) : pvalid n y m d h i s = some (decide (okZ y m d h i s)) := by
  unfold pvalid
  by_cases h1 : 1 ≤ y
  · rw [ite_f (by simp; omega)]
    by_cases h2 : y ≤ 9999
    · rw [ite_f (by simp; omega)]
      by_cases h3 : 1 ≤ m
      · rw [ite_f (by simp; omega)]
        by_cases h4 : m ≤ 12
        · rw [ite_f (by simp; omega)]
          by_cases h5 : 1 ≤ d
          · rw [ite_f (by simp; omega), days_is n (by omega), Option.bind_some]
            by_cases h6 : d ≤ daysZ y m
            · rw [ite_f (by simp; omega)]
              by_cases h7 : 0 ≤ h <;> by_cases h8 : h ≤ 23 <;> by_cases h9 : 0 ≤ i <;> by_cases h10 : i ≤ 59 <;> by_cases h11 : 0 ≤ s <;> by_cases h12 : s ≤ 59 <;> simp [okZ, h1, h2, h3, h4, h5, h6, h7, h8, h9, h10, h11, h12]
            · rw [ite_t (by simp; omega), decide_eq_false (fun hh => h6 hh.2.2.2.2.2.1)]
          · rw [ite_t (by simp; omega), decide_eq_false (fun hh => h5 hh.2.2.2.2.1)]
        · rw [ite_t (by simp; omega), decide_eq_false (fun hh => h4 hh.2.2.2.1)]
      · rw [ite_t (by simp; omega), decide_eq_false (fun hh => h3 hh.2.2.1)]
    · rw [ite_t (by simp; omega), decide_eq_false (fun hh => h2 hh.2.1)]
  · rw [ite_t (by simp; omega), decide_eq_false (fun hh => h1 hh.1)]
theorem ahead_is (n : Nat) {y : Int} (h1 : 1 ≤ y) (h2 : y ≤ 10001) : pahead n y = some (aheadZ y) := by
  unfold pahead aheadZ
  rw [Int.tdiv_eq_ediv_of_nonneg (show 0 ≤ y - 1 by omega), Int.tdiv_eq_ediv_of_nonneg (show 0 ≤ y - 1 by omega), Int.tdiv_eq_ediv_of_nonneg (show 0 ≤ y - 1 by omega)]
  rw [gd_pos (okI64 (by omega) (by omega)), gd_pos (okI64 (by omega) (by omega)), gd_pos (by decide), gd_pos (okI64 (by omega) (by omega)), gd_pos (okI64 (by omega) (by omega)), gd_pos (by decide), gd_pos (okI64 (by omega) (by omega)), gd_pos (okI64 (by omega) (by omega)), gd_pos (by decide), gd_pos (okI64 (by omega) (by omega)), gd_pos (okI64 (by omega) (by omega))]
theorem count_b {y m d h i s : Int} (hv : okZ y m d h i s) : 0 ≤ aheadZ y + (d - 1) + msum y (m - 1).toNat ∧ aheadZ y + (d - 1) + msum y (m - 1).toNat ≤ 4000000 := by
  obtain ⟨h1, h2, h3, h4, h5, h6, h7, h8, h9, h10, h11, h12⟩ := hv
  have := ahead_b h1 (by omega)
  have := msum_b y (m - 1).toNat
  have := daysZ_b y m
  omega
theorem pCount_l1_is (n : Nat) {y m d h i s : Int} (hv : okZ y m d h i s) : ∀ (k j fu : Nat), j + k = (m - 1).toNat → k < fu →
    pCount_l1 n y m d h i s fu (aheadZ y + (d - 1) + msum y j) ((j : Int) + 1) = some (countZ y m d h i s, none) := by
  have hb := count_b hv
  obtain ⟨h1, h2, h3, h4, h5, h6, h7, h8, h9, h10, h11, h12⟩ := hv
  have ha := ahead_b h1 (by omega)
  have hd := daysZ_b y m
  intro k
  induction k with
  | zero =>
    intro j fu hj hf
    cases fu with
    | zero => omega
    | succ fu =>
      obtain rfl : j = (m - 1).toNat := by omega
      rw [pCount_l1, ite_f (by simp; omega), gd_pos (okI64 (by omega) (by omega)), gd_pos (okI64 (by omega) (by omega)), gd_pos (okI64 (by omega) (by omega)), gd_pos (okI64 (by omega) (by omega)), gd_pos (okI64 (by omega) (by omega)), gd_pos (okI64 (by omega) (by omega))]
      rfl
  | succ k ih =>
    intro j fu hj hf
    cases fu with
    | zero => omega
    | succ fu =>
      have hm := msum_b y j
      have hdd := daysZ_b y ((j : Int) + 1)
      rw [pCount_l1, ite_t (by simp; omega), days_is n (by omega), Option.bind_some, gd_pos (okI64 (by omega) (by omega)), gd_pos (okI64 (by omega) (by omega))]
      have := ih (j + 1) fu (by omega) (by omega)
      simp only [msum] at this
      rw [show aheadZ y + (d - 1) + msum y j + daysZ y ((j : Int) + 1) = aheadZ y + (d - 1) + (msum y j + daysZ y ((j : Int) + 1)) by omega, show (j : Int) + 1 + 1 = ((j + 1 : Nat) : Int) + 1 by omega]
      exact this
theorem pCount_is {n : Nat} (hn : 100 ≤ n) (y m d h i s : Int) : pCount n y m d h i s = some (if okZ y m d h i s then (countZ y m d h i s, none) else (0, some 1)) := by
  unfold pCount
  rw [valid_is, Option.bind_some]
  by_cases hv : okZ y m d h i s
  · have ha := ahead_b hv.1 (by have := hv.2.1; omega)
    have hb := daysZ_b y m
    have hd := hv.2.2.2.2
    rw [if_pos hv, ite_f (by simp [hv]), ahead_is n hv.1 (by have := hv.2.1; omega), Option.bind_some, gd_pos (okI64 (by omega) (by omega)), gd_pos (okI64 (by omega) (by omega))]
    have := pCount_l1_is n hv (m - 1).toNat 0 n (by omega) (by have := hv.2.2.2.1; omega)
    simp only [msum, Int.add_zero] at this
    exact this
  · rw [if_neg hv, ite_t (by simp [hv])]
theorem msum_mono (y : Int) {a b : Nat} (h : a ≤ b) : msum y a ≤ msum y b := by
  induction b with
  | zero => obtain rfl : a = 0 := by omega
            exact Int.le_refl _
  | succ b ih =>
    by_cases hab : a = b + 1
    · subst hab; exact Int.le_refl _
    · have := ih (by omega)
      have := daysZ_b y ((b : Int) + 1)
      simp only [msum]; omega
theorem day_lt {y m d h i s : Int} (hv : okZ y m d h i s) : d - 1 + msum y (m - 1).toNat < msum y m.toNat := by
  obtain ⟨h1, h2, h3, h4, h5, h6, _⟩ := hv
  obtain ⟨k, rfl⟩ : ∃ k : Nat, m = (k : Int) + 1 := ⟨(m - 1).toNat, by omega⟩
  have e1 : ((k : Int) + 1 - 1).toNat = k := by omega
  have e2 : ((k : Int) + 1).toNat = k + 1 := by omega
  rw [e1, e2]
  simp only [msum]; omega
/-- an earlier moment -/
def lexZ (y m d h i s y' m' d' h' i' s' : Int) : Prop := y < y' ∨ (y = y' ∧ (m < m' ∨ (m = m' ∧ (d < d' ∨ (d = d' ∧ (h < h' ∨ (h = h' ∧ (i < i' ∨ (i = i' ∧ s < s')))))))))
theorem lex_count {y m d h i s y' m' d' h' i' s' : Int} (hv : okZ y m d h i s) (hv' : okZ y' m' d' h' i' s') (hl : lexZ y m d h i s y' m' d' h' i' s') : countZ y m d h i s < countZ y' m' d' h' i' s' := by
  have hd := day_lt hv
  have hb' := msum_b y' (m' - 1).toNat
  unfold countZ
  obtain ⟨h1, h2, h3, h4, h5, h6, h7, h8, h9, h10, h11, h12⟩ := hv
  obtain ⟨g1, g2, g3, g4, g5, g6, g7, g8, g9, g10, g11, g12⟩ := hv'
  rcases hl with hl | ⟨rfl, hl⟩
  · have h13 := msum_mono y (show m.toNat ≤ 12 by omega)
    rw [msum_13] at h13
    have hs := ahead_succ h1
    have hm := ahead_mono (x := y + 1) (y := y') (by omega) (by omega)
    omega
  · rcases hl with hl | ⟨rfl, hl⟩
    · have := msum_mono y (show m.toNat ≤ (m' - 1).toNat by omega)
      omega
    · rcases hl with hl | ⟨rfl, hl⟩
      · omega
      · rcases hl with hl | ⟨rfl, hl⟩
        · omega
        · rcases hl with hl | ⟨rfl, hl⟩ <;> omega
theorem lex_tri (y m d h i s y' m' d' h' i' s' : Int) : lexZ y m d h i s y' m' d' h' i' s' ∨ lexZ y' m' d' h' i' s' y m d h i s ∨ (y = y' ∧ m = m' ∧ d = d' ∧ h = h' ∧ i = i' ∧ s = s') := by
  unfold lexZ; omega
/-- numbers below a hundred, two digits each -/
def two2 (l : List Int) : List UInt8 := l.flatMap fun x => [UInt8.ofInt (48 + x / 10), UInt8.ofInt (48 + x % 10)]
def In100 (l : List Int) : Prop := ∀ x ∈ l, 0 ≤ x ∧ x ≤ 99
def lexL : List Int → List Int → Prop
  | x :: xs, y :: ys => x < y ∨ (x = y ∧ lexL xs ys)
  | _, _ => False
theorem ofIntB (t : Int) : (UInt8.ofInt t).toNat = (t % 256).toNat := by
  simp [UInt8.ofInt]; omega
theorem digit8 {x : Int} (h : 0 ≤ x ∧ x ≤ 99) : (UInt8.ofInt (48 + x / 10)).toNat = (48 + x / 10).toNat ∧ (UInt8.ofInt (48 + x % 10)).toNat = (48 + x % 10).toNat := by
  rw [ofIntB, ofIntB]; omega
theorem two2_less {t t' : List UInt8} : ∀ {a b : List Int}, In100 a → In100 b → lexL a b → Op.bytesLess (two2 a ++ t) (two2 b ++ t') = true
  | x :: xs, y :: ys, ha, hb, h => by
    have hx := digit8 (ha x (.head _))
    have hy := digit8 (hb y (.head _))
    have hx1 := ha x (.head _)
    have hy1 := hb y (.head _)
    have ex : two2 (x :: xs) = UInt8.ofInt (48 + x / 10) :: UInt8.ofInt (48 + x % 10) :: two2 xs := rfl
    have ey : two2 (y :: ys) = UInt8.ofInt (48 + y / 10) :: UInt8.ofInt (48 + y % 10) :: two2 ys := rfl
    rw [ex, ey]
    simp only [List.cons_append, Op.bytesLess]
    rcases h with h | ⟨rfl, h⟩
    · by_cases h10 : x / 10 = y / 10
      · have e : UInt8.ofInt (48 + x / 10) = UInt8.ofInt (48 + y / 10) := by rw [h10]
        have l : UInt8.ofInt (48 + x % 10) < UInt8.ofInt (48 + y % 10) := by rw [UInt8.lt_iff_toNat_lt, hx.2, hy.2]; omega
        rw [e]
        generalize UInt8.ofInt (48 + y / 10) = p at *
        generalize UInt8.ofInt (48 + x % 10) = q at *
        generalize UInt8.ofInt (48 + y % 10) = r at *
        simp [l]
      · have l : UInt8.ofInt (48 + x / 10) < UInt8.ofInt (48 + y / 10) := by rw [UInt8.lt_iff_toNat_lt, hx.1, hy.1]; omega
        generalize UInt8.ofInt (48 + y / 10) = p at *
        generalize UInt8.ofInt (48 + x / 10) = q at *
        simp [l]
    · have ih := two2_less (t := t) (t' := t') (fun z hz => ha z (.tail _ hz)) (fun z hz => hb z (.tail _ hz)) h
      simp [ih]
  | [], _, _, _, h => by cases h
  | _ :: _, [], _, _, h => by cases h
theorem pTime_l1_is (n : Nat) (b : UInt8) (l : List Int) (hl : l.length ≤ 100) (h100 : In100 l) : ∀ (m j fu : Nat) (o : List UInt8), j + m = l.length → m < fu → o.length ≤ 2 * j → pTime_l1 n b l l.length fu o (j : Int) = some (b, (o ++ two2 (l.drop j)) ++ [90], none) := by
  intro m
  induction m with
  | zero =>
    intro j fu o hj hf ho
    cases fu with
    | zero => omega
    | succ fu =>
      rw [pTime_l1, ite_f (by simp <;> omega), gd_pos (by unfold rmB; omega), List.drop_of_length_le (by omega)]
      simp [two2]
  | succ m ih =>
    intro j fu o hj hf ho
    cases fu with
    | zero => omega
    | succ fu =>
      have hx : 0 ≤ l.getD j 0 ∧ l.getD j 0 ≤ 99 := by
        rw [List.getD_eq_getElem?_getD, List.getElem?_eq_getElem (show j < l.length by omega)]
        exact h100 _ (List.getElem_mem _)
      have e : l.drop j = l.getD j 0 :: l.drop (j + 1) := by
        rw [List.drop_eq_getElem_cons (show j < l.length by omega), List.getD_eq_getElem?_getD, List.getElem?_eq_getElem (show j < l.length by omega)]; rfl
      have e2 : two2 (l.drop j) = [UInt8.ofInt (48 + l.getD j 0 / 10), UInt8.ofInt (48 + l.getD j 0 % 10)] ++ two2 (l.drop (j + 1)) := by rw [e]; rfl
      rw [pTime_l1, ite_t (by simp <;> omega), Int.toNat_natCast, Int.tdiv_eq_ediv_of_nonneg hx.1, Int.tmod_eq_emod_of_nonneg hx.1, gd_pos (by omega), gd_pos (by omega), gd_pos (by decide), gd_pos (okI64 (by omega) (by omega)), gd_pos (okI64 (by omega) (by omega)), gd_pos (by decide), gd_pos (okI64 (by omega) (by omega)), gd_pos (by unfold rmB; omega), gd_pos (okI64 (by omega) (by omega))]
      rw [e2, ← List.append_assoc]
      exact ih (j + 1) fu _ (by omega) (by omega) (by simp; omega)
/-- a moment's mark, and its numbers -/
def markZ (y : Int) : UInt8 := if 1950 ≤ y ∧ y < 2050 then 23 else 24
def numsZ (y m d h i s : Int) : List Int := if 1950 ≤ y ∧ y < 2050 then [y % 100, m, d, h, i, s] else [y / 100, y % 100, m, d, h, i, s]
theorem nums_100 {y m d h i s : Int} (hv : okZ y m d h i s) : In100 (numsZ y m d h i s) := by
  have hd := daysZ_b y m
  obtain ⟨h1, h2, h3, h4, h5, h6, h7, h8, h9, h10, h11, h12⟩ := hv
  unfold numsZ
  split <;> intro x hx <;> simp only [List.mem_cons, List.mem_nil_iff, or_false] at hx <;> omega
theorem pTime_is {n : Nat} (hn : 100 ≤ n) (y m d h i s : Int) : pTime n y m d h i s = some (if okZ y m d h i s then (markZ y, two2 (numsZ y m d h i s) ++ [90], none) else (0, [], some 1)) := by
  unfold pTime
  rw [valid_is, Option.bind_some]
  by_cases hv : okZ y m d h i s
  · have h100 := nums_100 hv
    have hy := hv.1
    have hy2 := hv.2.1
    rw [if_pos hv, ite_f (by simp [hv]), Int.tdiv_eq_ediv_of_nonneg (by omega), Int.tmod_eq_emod_of_nonneg (by omega), gd_pos (by decide), gd_pos (okI64 (by omega) (by omega)), gd_pos (by decide)]
    unfold pTime_j1
    unfold markZ
    unfold numsZ at h100 ⊢
    by_cases h1 : 1950 ≤ y
    · rw [ite_t (by simpa using h1)]
      by_cases h2 : y < 2050
      · rw [ite_t (by simpa using h2), gd_pos (by omega), gd_pos (by omega), if_pos ⟨h1, h2⟩, if_pos ⟨h1, h2⟩]
        rw [if_pos ⟨h1, h2⟩] at h100
        exact pTime_l1_is n 23 [y % 100, m, d, h, i, s] (by simp) h100 6 0 n [] rfl (by omega) (by simp)
      · rw [ite_f (by simpa using h2), if_neg (fun h => h2 h.2), if_neg (fun h => h2 h.2)]
        rw [if_neg (fun h => h2 h.2)] at h100
        exact pTime_l1_is n 24 [y / 100, y % 100, m, d, h, i, s] (by simp) h100 7 0 n [] rfl (by omega) (by simp)
    · rw [ite_f (by simpa using h1), if_neg (fun h => h1 h.1), if_neg (fun h => h1 h.1)]
      rw [if_neg (fun h => h1 h.1)] at h100
      exact pTime_l1_is n 24 [y / 100, y % 100, m, d, h, i, s] (by simp) h100 7 0 n [] rfl (by omega) (by simp)
  · rw [if_neg hv, ite_t (by simp [hv])]
theorem up8_l : pup 1000 = some true := by decide +kernel
theorem nums_less {y m d h i s y' m' d' h' i' s' : Int} (hm : markZ y = markZ y') (hc : ¬ (markZ y = 23 ∧ y < 2000 ∧ 2000 ≤ y')) (hl : lexZ y m d h i s y' m' d' h' i' s') : lexL (numsZ y m d h i s) (numsZ y' m' d' h' i' s') := by
  unfold markZ at hm hc
  unfold numsZ
  by_cases h1 : 1950 ≤ y ∧ y < 2050
  · by_cases h2 : 1950 ≤ y' ∧ y' < 2050
    · rw [if_pos h1, if_pos h2]
      rw [if_pos h1] at hc
      have hc' : ¬ (y < 2000 ∧ 2000 ≤ y') := fun h => hc ⟨rfl, h⟩
      unfold lexZ at hl
      simp only [lexL]
      omega
    · rw [if_pos h1, if_neg h2] at hm; exact absurd hm (by decide)
  · by_cases h2 : 1950 ≤ y' ∧ y' < 2050
    · rw [if_neg h1, if_pos h2] at hm; exact absurd hm (by decide)
    · rw [if_neg h1, if_neg h2]
      unfold lexZ at hl
      simp only [lexL]
      omega
theorem lLater_is (y m d h i s y' m' d' h' i' s' : Int) : lLater 1000 y m d h i s y' m' d' h' i' s' = some true := by
  unfold lLater
  rw [up8_l, Option.bind_some, pCount_is (by decide), Option.bind_some, pCount_is (by decide), Option.bind_some, pTime_is (by decide), Option.bind_some, pTime_is (by decide), Option.bind_some]
  by_cases ha : okZ y m d h i s
  · by_cases hb : okZ y' m' d' h' i' s'
    · simp only [if_pos ha, if_pos hb, Option.isNone_none, Bool.not_true, cond_false, cond_true]
      rcases lex_tri y m d h i s y' m' d' h' i' s' with hl | hl | he
      · have hlt := lex_count ha hb hl
        rw [ite_f (by simp; omega)]
        by_cases hm : markZ y = markZ y'
        · rw [ite_f (by simp [hm])]
          have less : ¬ (markZ y = 23 ∧ y < 2000 ∧ 2000 ≤ y') → Op.bytesLess (two2 (numsZ y m d h i s) ++ [90]) (two2 (numsZ y' m' d' h' i' s') ++ [90]) = true := fun hc => two2_less (nums_100 ha) (nums_100 hb) (nums_less hm hc hl)
          by_cases h23 : markZ y = 23
          · rw [ite_t (by rw [h23]; rfl)]
            by_cases h20 : y < 2000
            · rw [ite_t (by simpa using h20)]
              by_cases h20' : 2000 ≤ y'
              · rw [ite_t (by simpa using h20')]
              · rw [ite_f (by simpa using h20'), less (fun h => h20' h.2.2)]
            · rw [ite_f (by simpa using h20), less (fun h => h20 h.2.1)]
          · rw [ite_f (by simpa using h23), less (fun h => h23 h.1)]
        · rw [ite_t (by simpa using hm)]
      · have hlt := lex_count hb ha hl
        rw [ite_t (by simp; omega)]
        simp only [beq_self_eq_true, cond_true]
        rw [ite_t (by simp only [bne_iff_ne]; omega)]
      · obtain ⟨rfl, rfl, rfl, rfl, rfl, rfl⟩ := he
        rw [ite_t (by simp)]; simp
    · simp [ha, hb]
  · by_cases hb : okZ y' m' d' h' i' s'
    · simp [ha, hb]
    · simp [ha, hb]
end Go.Sx
namespace Go.Proofs.Ytliilihbnhdemaa
open Go.RowKit Go.Ch Go.Sx
theorem primLater_c (w : World) (t0_0 t0_1 t0_2 t0_3 t0_4 t0_5 : Int) (t1_0 t1_1 t1_2 t1_3 t1_4 t1_5 : Int) :
    Calls Try.prog 4 #[.agg #[.int .i64 t0_0, .int .i64 t0_1, .int .i64 t0_2, .int .i64 t0_3, .int .i64 t0_4, .int .i64 t0_5], .agg #[.int .i64 t1_0, .int .i64 t1_1, .int .i64 t1_2, .int .i64 t1_3, .int .i64 t1_4, .int .i64 t1_5]] w (Ret fun v' w' => Ext w w' ∧ v' = .bool true) := by
  exact law_of (lLater_ok 1000 true) (args := [.g 6 (.c [.s (.k .i64 t0_0), .s (.k .i64 t0_1), .s (.k .i64 t0_2), .s (.k .i64 t0_3), .s (.k .i64 t0_4), .s (.k .i64 t0_5)]), .g 6 (.c [.s (.k .i64 t1_0), .s (.k .i64 t1_1), .s (.k .i64 t1_2), .s (.k .i64 t1_3), .s (.k .i64 t1_4), .s (.k .i64 t1_5)])]) (H := []) (ρ := plL []) (vals := [.agg #[.int .i64 t0_0, .int .i64 t0_1, .int .i64 t0_2, .int .i64 t0_3, .int .i64 t0_4, .int .i64 t0_5], .agg #[.int .i64 t1_0, .int .i64 t1_1, .int .i64 t1_2, .int .i64 t1_3, .int .i64 t1_4, .int .i64 t1_5]]) rfl (allP_cons.2 ⟨lLater_is _ _ _ _ _ _ _ _ _ _ _ _, allP_nil⟩) trivial (hpL (ps := []) F2.nil) (F2.cons ⟨[Value.int .i64 t0_0, Value.int .i64 t0_1, Value.int .i64 t0_2, Value.int .i64 t0_3, Value.int .i64 t0_4, Value.int .i64 t0_5], (F2.cons rfl (F2.cons rfl (F2.cons rfl (F2.cons rfl (F2.cons rfl (F2.cons rfl F2.nil)))))), rfl, rfl⟩ (F2.cons ⟨[Value.int .i64 t1_0, Value.int .i64 t1_1, Value.int .i64 t1_2, Value.int .i64 t1_3, Value.int .i64 t1_4, Value.int .i64 t1_5], (F2.cons rfl (F2.cons rfl (F2.cons rfl (F2.cons rfl (F2.cons rfl (F2.cons rfl F2.nil)))))), rfl, rfl⟩ F2.nil))
end Go.Proofs.Ytliilihbnhdemaa
