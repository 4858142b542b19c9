import Derived.Test.YtliilihbnhdemaaPu
import Derived.Test.YtliilihbnhdemaaPi
set_option linter.unusedVariables false
set_option linter.unusedSimpArgs false
namespace Go.Sx
open Go Go.RowKit Go.Ch Go.Proofs.Ytliilihbnhdemaa
/-- bytes' number, the highest first, behind s -/
def vI (s : Int) (l : List UInt8) : Int := l.foldl (fun a x => a * 256 + (x.toNat : Int)) s
theorem vI_nil (s : Int) : vI s [] = s := rfl
theorem vI_cons (s : Int) (x : UInt8) (l : List UInt8) : vI s (x :: l) = vI (s * 256 + (x.toNat : Int)) l := rfl
theorem vI_snoc (s : Int) (l : List UInt8) (x : UInt8) : vI s (l ++ [x]) = vI s l * 256 + (x.toNat : Int) := by simp [vI]
/-- the sign that a first byte tells -/
def sg (l : List UInt8) : Int := if 128 ≤ (l.getD 0 0).toNat then -1 else 0
def val8 (l : List UInt8) : Int := vI (sg l) l
theorem u8_lt (x : UInt8) : x.toNat < 256 := x.toNat_lt
theorem vI_bound (l : List UInt8) : ∀ s : Int, s * 256 ^ l.length ≤ vI s l ∧ vI s l < (s + 1) * 256 ^ l.length := by
  induction l with
  | nil => intro s; simp [vI_nil]; omega
  | cons x l ih =>
    intro s
    obtain ⟨h1, h2⟩ := ih (s * 256 + (x.toNat : Int))
    have hx := u8_lt x
    rw [vI_cons, List.length_cons]
    have hp : (0 : Int) < 256 ^ l.length := Int.pow_pos (by decide)
    have e : (256 : Int) ^ (l.length + 1) = 256 * 256 ^ l.length := by rw [Int.pow_succ, Int.mul_comm]
    rw [e]
    generalize (256 : Int) ^ l.length = p at *
    generalize vI (s * 256 + (x.toNat : Int)) l = v at *
    generalize hxx : (x.toNat : Int) = y at *
    have k1 : s * (256 * p) + y * p = (s * 256 + y) * p := by grind
    have k2 : (s * 256 + y + 1) * p = s * (256 * p) + (y + 1) * p := by grind
    have k3 : (s + 1) * (256 * p) = s * (256 * p) + 256 * p := by grind
    have k4 : 0 ≤ y * p := Int.mul_nonneg (by omega) (by omega)
    have k5 : (y + 1) * p ≤ 256 * p := Int.mul_le_mul_of_nonneg_right (by omega) (by omega)
    omega
theorem sg_bound (l : List UInt8) : -1 ≤ sg l ∧ sg l ≤ 0 := by unfold sg; split <;> omega
theorem pow256 {k : Nat} (h : k ≤ 7) : (256 : Int) ^ k ≤ 72057594037927936 ∧ 0 < (256 : Int) ^ k := by
  refine ⟨?_, Int.pow_pos (by decide)⟩
  have : (256 : Nat) ^ k ≤ 256 ^ 7 := Nat.pow_le_pow_right (by decide) h
  have e : ((256 ^ k : Nat) : Int) = (256 : Int) ^ k := Int.natCast_pow 256 k
  rw [← e]; omega
/-- what begins a body of at most eight bytes is at most as great -/
theorem vI_small {s : Int} {l : List UInt8} (hs : -128 ≤ s ∧ s < 128) (hl : l.length ≤ 7) : -9223372036854775808 ≤ vI s l ∧ vI s l < 9223372036854775808 := by
  obtain ⟨h1, h2⟩ := vI_bound l s
  obtain ⟨h3, h4⟩ := pow256 hl
  have k1 : -128 * 256 ^ l.length ≤ s * 256 ^ l.length := Int.mul_le_mul_of_nonneg_right (by omega) (by omega)
  have k2 : (s + 1) * 256 ^ l.length ≤ 128 * 256 ^ l.length := Int.mul_le_mul_of_nonneg_right (by omega) (by omega)
  generalize (256 : Int) ^ l.length = p at *
  omega
theorem rValue_l1_is (n : Nat) (a : List UInt8) (ha : a.length ≤ 8) (s : Int) (hs : -1 ≤ s ∧ s ≤ 0) (h0 : s = -1 → 128 ≤ (a.getD 0 0).toNat) (h1 : s = 0 → (a.getD 0 0).toNat < 128) : ∀ (m i fu : Nat), i + m = a.length → m < fu →
    rValue_l1 n a fu (vI s (a.take i)) (i : Int) = some (vI s a) := by
  intro m
  induction m with
  | zero =>
    intro i fu hi hf
    cases fu with
    | zero => omega
    | succ fu => rw [rValue_l1, ite_f (by simp <;> omega), List.take_of_length_le (by omega)]
  | succ m ih =>
    intro i fu hi hf
    cases fu with
    | zero => omega
    | succ fu =>
      have e1 : a.take (i + 1) = a.take i ++ [a.getD i 0] := by
        rw [List.take_succ_eq_append_getElem (by omega), List.getD_eq_getElem?_getD, List.getElem?_eq_getElem (by omega)]; rfl
      have e2 : vI s (a.take (i + 1)) = vI s (a.take i) * 256 + ((a.getD i 0).toNat : Int) := by rw [e1, vI_snoc]
      have hx := u8_lt (a.getD i 0)
      have hb : -9223372036854775808 ≤ vI s (a.take (i + 1)) ∧ vI s (a.take (i + 1)) < 9223372036854775808 := by
        have e3 : a.take (i + 1) = a.getD 0 0 :: (a.drop 1).take i := by
          cases a with
          | nil => simp at hi
          | cons x l => simp
        rw [e3, vI_cons]
        have hx0 := u8_lt (a.getD 0 0)
        refine vI_small ?_ (by simp; omega)
        rcases (show s = -1 ∨ s = 0 by omega) with h | h
        · have := h0 h; omega
        · have := h1 h; omega
      rw [rValue_l1, ite_t (by simp <;> omega), Int.toNat_natCast, gd_pos (okI64 (by omega) (by omega)), gd_pos (by omega), gd_pos (by omega), gd_pos (okI64 (by omega) (by omega)), gd_pos (okI64 (by omega) (by omega)), ← e2]
      exact ih (i + 1) fu (by omega) (by omega)
theorem rValue_is {n : Nat} (hn : 100 ≤ n) {a : List UInt8} (h0 : a ≠ []) (ha : a.length ≤ 8) : rValue n a = some (val8 a) := by
  have hl := List.length_pos_iff.2 h0
  unfold rValue rValue_j1 val8 sg
  rw [gd_pos (by omega), gd_pos (by omega)]
  by_cases h : 128 ≤ (a.getD 0 0).toNat
  · rw [ite_t (by simp only [decide_eq_true_eq, UInt8.le_iff_toNat_le]; exact h), if_pos h]
    exact rValue_l1_is n a ha (-1) (by omega) (fun _ => h) (fun h => by omega) a.length 0 n (by omega) (by omega)
  · rw [ite_f (by simp only [decide_eq_false_iff_not, UInt8.le_iff_toNat_le]; exact h), if_neg h]
    exact rValue_l1_is n a ha 0 (by omega) (fun h => by omega) (fun _ => by omega) a.length 0 n (by omega) (by omega)
/-- a first byte that says nothing -/
def spare (a : List UInt8) : Bool := ((a.getD 0 0).toNat == 0 && decide ((a.getD 1 0).toNat < 128)) || ((a.getD 0 0).toNat == 255 && decide (128 ≤ (a.getD 1 0).toNat))
theorem u8eq (x : UInt8) (k : Nat) (hk : k < 256) : (x == UInt8.ofNat k) = (x.toNat == k) := by
  rw [Bool.eq_iff_iff]
  simp only [beq_iff_eq, ← UInt8.toNat_inj]
  have : (UInt8.ofNat k).toNat = k := by simp; omega
  rw [this]
theorem pspare_is (n : Nat) {a : List UInt8} (h : 2 ≤ a.length) : pspare n a = some (spare a) := by
  unfold pspare spare
  have e0 : ((a.getD 0 0) == 0) = ((a.getD 0 0).toNat == 0) := u8eq _ 0 (by decide)
  have e1 : ((a.getD 0 0) == 255) = ((a.getD 0 0).toNat == 255) := u8eq _ 255 (by decide)
  have e2 : (decide ((a.getD 1 0) < (128 : UInt8))) = decide ((a.getD 1 0).toNat < 128) := by rw [Bool.eq_iff_iff]; simp only [decide_eq_true_eq]; exact UInt8.lt_iff_toNat_lt
  have e3 : (decide ((128 : UInt8) ≤ (a.getD 1 0))) = decide (128 ≤ (a.getD 1 0).toNat) := by rw [Bool.eq_iff_iff]; simp only [decide_eq_true_eq]; exact UInt8.le_iff_toNat_le
  rw [e0, e1, e2, e3]
  simp only [gd_pos (show (0 : Int) ≤ 0 by omega), gd_pos (show (0 : Int) < ((a.length : Nat) : Int) by omega), gd_pos (show (0 : Int) ≤ 1 by omega), gd_pos (show (1 : Int) < ((a.length : Nat) : Int) by omega)]
  cases h1 : ((a.getD 0 0).toNat == 0) <;> cases h2 : ((a.getD 0 0).toNat == 255) <;> cases h3 : decide ((a.getD 1 0).toNat < 128) <;> simp_all
theorem rNumber_is (n : Nat) (a : List UInt8) : rNumber n a = some (decide (a ≠ []) && !(decide (2 ≤ a.length) && spare a)) := by
  unfold rNumber
  by_cases h0 : a.length = 0
  · have : a = [] := List.eq_nil_of_length_eq_zero h0
    rw [ite_t (by simp [h0])]; simp [this]
  · have hne : a ≠ [] := fun h => h0 (by rw [h]; rfl)
    rw [ite_f (by simp <;> omega)]
    by_cases h1 : a.length = 1
    · rw [ite_t (by simp <;> omega)]; simp [hne, h1]
    · have h2 : 2 ≤ a.length := by omega
      rw [ite_f (by simp <;> omega)]
      unfold spare
      have e0 : ((a.getD 0 0) == 0) = ((a.getD 0 0).toNat == 0) := u8eq _ 0 (by decide)
      have e1 : ((a.getD 0 0) == 255) = ((a.getD 0 0).toNat == 255) := u8eq _ 255 (by decide)
      have e2 : (decide ((a.getD 1 0) < (128 : UInt8))) = decide ((a.getD 1 0).toNat < 128) := by rw [Bool.eq_iff_iff]; simp only [decide_eq_true_eq]; exact UInt8.lt_iff_toNat_lt
      have e3 : (decide ((128 : UInt8) ≤ (a.getD 1 0))) = decide (128 ≤ (a.getD 1 0).toNat) := by rw [Bool.eq_iff_iff]; simp only [decide_eq_true_eq]; exact UInt8.le_iff_toNat_le
      rw [e0, e1, e2, e3]
      simp only [gd_pos (show (0 : Int) ≤ 0 by omega), gd_pos (show (0 : Int) < ((a.length : Nat) : Int) by omega), gd_pos (show (0 : Int) ≤ 1 by omega), gd_pos (show (1 : Int) < ((a.length : Nat) : Int) by omega)]
      cases h4 : ((a.getD 0 0).toNat == 0) <;> cases h5 : ((a.getD 0 0).toNat == 255) <;> cases h3 : decide ((a.getD 1 0).toNat < 128) <;> simp_all
theorem val_spare {x y : UInt8} {l : List UInt8} (h : spare (x :: y :: l) = true) : val8 (x :: y :: l) = val8 (y :: l) := by
  unfold spare at h
  simp only [List.getD_cons_zero, List.getD_cons_succ, Bool.or_eq_true, Bool.and_eq_true, beq_iff_eq, decide_eq_true_eq] at h
  unfold val8 sg
  simp only [List.getD_cons_zero]
  rcases h with ⟨h1, h2⟩ | ⟨h1, h2⟩
  · rw [if_neg (by omega), if_neg (by omega), vI_cons, h1]; rfl
  · rw [if_pos (by omega), if_pos (by omega), vI_cons, h1]; rfl
/-- the body of a number: of what has its value -/
theorem pInt_l2_is (n : Nat) (v : Int) : ∀ (m fu : Nat) (l : List UInt8), l.length = m + 1 → m < fu → l.length ≤ 8 → val8 l = v →
    ∃ r : List UInt8, pInt_l2 n fu l l.length = some r ∧ r ≠ [] ∧ r.length ≤ 8 ∧ val8 r = v ∧ (decide (2 ≤ r.length) && spare r) = false := by
  intro m
  induction m with
  | zero =>
    intro fu l hl hf h8 hv
    cases fu with
    | zero => omega
    | succ fu =>
      refine ⟨l, ?_, fun h => by rw [h] at hl; simp at hl, h8, hv, by simp; omega⟩
      rw [pInt_l2, ite_f (by simp <;> omega)]
      unfold pInt_j1
      rw [gd_pos (by omega)]
  | succ m ih =>
    intro fu l hl hf h8 hv
    cases fu with
    | zero => omega
    | succ fu =>
      match l, hl with
      | x :: y :: l, hl =>
        rw [pInt_l2, ite_t (by simp <;> omega), pspare_is n (by simp), Option.bind_some]
        cases hs : spare (x :: y :: l) with
        | true =>
          rw [ite_t rfl, gd_pos (by omega), gd_pos (by simp; omega)]
          have e : ((x :: y :: l).drop 1).take ((x :: y :: l).length - 1) = y :: l := by simp
          rw [e, show (x :: y :: l).length - 1 = (y :: l).length by simp]
          exact ih fu (y :: l) (by simpa using hl) (by omega) (by simp at h8 ⊢; omega) (by rw [← val_spare hs]; exact hv)
        | false =>
          refine ⟨x :: y :: l, ?_, by simp, h8, hv, by rw [hs, Bool.and_false]⟩
          rw [ite_f rfl]
          unfold pInt_j1
          rw [gd_pos (by omega)]
theorem ofInt8 (t : Int) : (UInt8.ofInt t).toNat = (t % 256).toNat := by
  simp [UInt8.ofInt]; omega
theorem shr_shr (a : Int) (j : Nat) : a / 2 ^ (8 * j) = a / 2 ^ (8 * (j + 1)) * 256 + (a / 2 ^ (8 * j) % 256) := by
  have e : (2 : Int) ^ (8 * (j + 1)) = 2 ^ (8 * j) * 256 := by rw [show 8 * (j + 1) = 8 * j + 8 by omega, Int.pow_add]; rfl
  rw [e, ← Int.ediv_ediv_of_nonneg (Int.le_of_lt (Int.pow_pos (by decide)))]
  omega
theorem pInt_l1_is {n : Nat} (hn : 100 ≤ n) (a : Int) (h1 : -9223372036854775808 ≤ a) (h2 : a < 9223372036854775808) : ∀ (j fu : Nat) (l : List UInt8), j < fu → l.length + j = 8 → vI (a / 2 ^ 64) l = a / 2 ^ (8 * j) → (l = [] ∨ sg l = a / 2 ^ 64) →
    ∃ r : List UInt8, pInt_l1 n a fu l (8 * (j : Int) - 8) = some r ∧ r ≠ [] ∧ r.length ≤ 8 ∧ val8 r = a ∧ (decide (2 ≤ r.length) && spare r) = false := by
  intro j
  induction j with
  | zero =>
    intro fu l hf hl hv hs
    cases fu with
    | zero => omega
    | succ fu =>
      rw [pInt_l1, ite_f (by simp)]
      rcases hs with rfl | hs
      · simp at hl
      · refine pInt_l2_is n a 7 n l (by omega) (by omega) (by omega) ?_
        unfold val8
        rw [hs, hv]; simp
  | succ j ih =>
    intro fu l hf hl hv hs
    cases fu with
    | zero => omega
    | succ fu =>
      have e1 : 8 * ((j + 1 : Nat) : Int) - 8 = ((8 * j : Nat) : Int) := by omega
      have e2 : ((8 * j : Nat) : Int) - 8 = 8 * (j : Int) - 8 := by omega
      rw [e1, pInt_l1, ite_t (by simp <;> omega), gd_pos (by omega), gd_pos (by show _ ≤ ((64 : Nat) : Int); omega), gd_pos (by unfold rmB; omega), gd_pos (okI64 (by omega) (by omega)), Int.toNat_natCast, e2]
      have hb : (((UInt8.ofInt (a / 2 ^ (8 * j))).toNat : Nat) : Int) = a / 2 ^ (8 * j) % 256 := by rw [ofInt8]; omega
      refine ih fu _ (by omega) (by simp; omega) (by rw [vI_snoc, hv, hb]; exact (shr_shr a j).symm) (.inr ?_)
      rcases hs with rfl | hs
      · have hj : j = 7 := by simp at hl; omega
        subst hj
        unfold sg
        simp only [List.nil_append, List.getD_cons_zero]
        have := hb
        split <;> omega
      · rw [← hs]
        unfold sg
        cases l with
        | nil =>
          unfold sg at hs
          simp at hs
          have hj : j = 7 := by simp at hl; omega
          subst hj
          simp only [List.nil_append, List.getD_cons_zero, List.getD_nil]
          have := hb
          split <;> simp <;> omega
        | cons x l => simp
theorem pInt_is {n : Nat} (hn : 100 ≤ n) {a : Int} (h1 : -9223372036854775808 ≤ a) (h2 : a < 9223372036854775808) :
    ∃ r : List UInt8, pInt n a = some r ∧ r ≠ [] ∧ r.length ≤ 8 ∧ val8 r = a ∧ (decide (2 ≤ r.length) && spare r) = false :=
  pInt_l1_is hn a h1 h2 8 n [] (by omega) rfl rfl (.inl rfl)
theorem bor8 {i : Int} {x : Nat} (hx : x < 256) (h1 : -9223372036854775808 ≤ i * 256) (h2 : i * 256 + x < 9223372036854775808) : bitI .or .i64 (i * 2 ^ 8) (x : Int) = i * 256 + x := by
  have e : (i * 2 ^ 8 : Int) = i * 256 := by rfl
  rw [e]
  unfold bitI
  show IntKind.i64.wrap (((BitVec.ofInt 64 (i * 256) ||| BitVec.ofInt 64 (x : Int)).toNat : Nat) : Int) = _
  have hX : (BitVec.ofInt 64 (x : Int)).toNat = x := by rw [BitVec.toNat_ofInt]; omega
  have hI : (BitVec.ofInt 64 (i * 256)).toNat = (i % 2 ^ 56).toNat * 256 := by rw [BitVec.toNat_ofInt]; omega
  have ho : (BitVec.ofInt 64 (i * 256) ||| BitVec.ofInt 64 (x : Int)).toNat = (i % 2 ^ 56).toNat * 256 + x := by
    rw [BitVec.toNat_or, hX, hI]
    have := Nat.shiftLeft_add_eq_or_of_lt (i := 8) (show x < 2 ^ 8 from hx) (i % 2 ^ 56).toNat
    rw [Nat.shiftLeft_eq] at this
    exact this.symm
  rw [ho]
  unfold IntKind.wrap
  simp [IntKind.bits, IntKind.signed]
  omega
theorem readInt_l (f : Nat → Int → Int → Option (Int × Option Int)) (a : List UInt8) (ha : a.length ≤ 8) (h0 : a ≠ []) (s : Int) (hs : -128 ≤ s ∧ s < 128)
    (hf : ∀ fu i j, f (fu + 1) i j = bif (decide (j < (((a.length - 1) : Nat) : Int))) then
      gd (0 ≤ j) <|
      gd (j < (((a.length - 1) : Nat) : Int)) <|
      gd (0 ≤ (8 : Int)) <|
      gd ((8 : Int) ≤ (((IntKind.i64).bits : Nat) : Int)) <|
      gd (okI .i64 (i * 2 ^ 8)) <|
      gd (okI .i64 (j + 1)) <|
      (f fu) (bitI .or .i64 (i * 2 ^ 8) (((((a.drop 1).take (a.length - 1)).getD j.toNat 0).toNat : Nat) : Int)) (j + 1)
    else
      some (i, none)) : ∀ (m i fu : Nat), i + m = a.length - 1 → m < fu → f fu (vI s ((a.drop 1).take i)) (i : Int) = some (vI s (a.drop 1), none) := by
  have hl := List.length_pos_iff.2 h0
  intro m
  induction m with
  | zero =>
    intro i fu hi hfu
    cases fu with
    | zero => omega
    | succ fu => rw [hf, ite_f (by simp <;> omega), List.take_of_length_le (by simp; omega)]
  | succ m ih =>
    intro i fu hi hfu
    cases fu with
    | zero => omega
    | succ fu =>
      have hlen : (a.drop 1).length = a.length - 1 := by simp
      have e0 : (a.drop 1).take (a.length - 1) = a.drop 1 := List.take_of_length_le (by simp)
      have e1 : (a.drop 1).take (i + 1) = (a.drop 1).take i ++ [(a.drop 1).getD i 0] := by
        rw [List.take_succ_eq_append_getElem (by omega), List.getD_eq_getElem?_getD, List.getElem?_eq_getElem (by omega)]; rfl
      have e2 : vI s ((a.drop 1).take (i + 1)) = vI s ((a.drop 1).take i) * 256 + (((a.drop 1).getD i 0).toNat : Int) := by rw [e1, vI_snoc]
      have hx := u8_lt ((a.drop 1).getD i 0)
      have hb := vI_small (s := s) (l := (a.drop 1).take (i + 1)) hs (by simp; omega)
      have hb0 := vI_small (s := s) (l := (a.drop 1).take i) hs (by simp; omega)
      rw [hf, ite_t (by simp <;> omega), Int.toNat_natCast, e0, gd_pos (by omega), gd_pos (by omega), gd_pos (by omega), gd_pos (by show (8 : Int) ≤ ((64 : Nat) : Int); omega), gd_pos (okI64 (by omega) (by omega)), gd_pos (okI64 (by omega) (by omega)), bor8 hx (by omega) (by omega), ← e2]
      exact ih (i + 1) fu (by omega) (by omega)
theorem pReadInt_is {n : Nat} (hn : 100 ≤ n) (a : List UInt8) : pReadInt n a = some (if a = [] ∨ (2 ≤ a.length ∧ spare a = true) then (0, some 2) else if 8 < a.length then (0, some 4) else (val8 a, none)) := by
  unfold pReadInt
  by_cases h0 : a = []
  · rw [ite_t (by rw [h0]; rfl), if_pos (.inl h0)]
  · have hl := List.length_pos_iff.2 h0
    have hx := u8_lt (a.getD 0 0)
    have hw : IntKind.i8.wrap (((a.getD 0 0).toNat : Nat) : Int) = sg a * 256 + ((a.getD 0 0).toNat : Int) := by
      unfold sg IntKind.wrap
      simp only [IntKind.bits, IntKind.signed, Bool.true_and, decide_eq_true_eq, show (2 : Int) ^ 8 = 256 from rfl, show (2 : Int) ^ (8 - 1) = 128 from rfl]
      split <;> split <;> omega
    have hwb : -128 ≤ sg a * 256 + ((a.getD 0 0).toNat : Int) ∧ sg a * 256 + ((a.getD 0 0).toNat : Int) < 128 := by unfold sg; split <;> omega
    have hval : vI (sg a * 256 + ((a.getD 0 0).toNat : Int)) (a.drop 1) = val8 a := by
      cases a with
      | nil => exact absurd rfl h0
      | cons x l => rfl
    rw [ite_f (by simp <;> omega)]
    by_cases h1 : 2 ≤ a.length
    · rw [ite_t (by simp <;> omega), pspare_is n h1, Option.bind_some]
      cases hs : spare a with
      | true => rw [ite_t rfl, if_pos (.inr ⟨h1, rfl⟩)]
      | false =>
        rw [ite_f rfl, if_neg (by simp [h0])]
        by_cases h8 : 8 < a.length
        · rw [ite_t (by simp <;> omega), if_pos h8]
        · rw [ite_f (by simp <;> omega), if_neg h8, hw, gd_pos (by omega), gd_pos (by omega), gd_pos (okI64 (by omega) (by omega)), gd_pos (by omega), gd_pos (by omega), ← hval]
          exact readInt_l (pReadInt_l1 n a) a (by omega) h0 _ hwb (fun _ _ _ => rfl) (a.length - 1) 0 n (by omega) (by omega)
    · rw [ite_f (by simp <;> omega), if_neg (by simp [h0]; omega)]
      rw [ite_f (by simp <;> omega), if_neg (by omega), hw, gd_pos (by omega), gd_pos (by omega), gd_pos (okI64 (by omega) (by omega)), gd_pos (by omega), gd_pos (by omega), ← hval]
      exact readInt_l (pReadInt_l2 n a) a (by omega) h0 _ hwb (fun _ _ _ => rfl) (a.length - 1) 0 n (by omega) (by omega)
theorem up8_is : pup 1000 = some true := by decide +kernel
theorem lInts_is {a : Int} (h1 : -9223372036854775808 ≤ a) (h2 : a < 9223372036854775808) (b : List UInt8) : lInts 1000 a b = some true := by
  unfold lInts
  obtain ⟨r, hr, hr0, hr8, hrv, hrs⟩ := pInt_is (n := 1000) (by decide) h1 h2
  rw [up8_is, Option.bind_some, hr, Option.bind_some, rNumber_is, Option.bind_some, hrs]
  rw [ite_f (by simp [hr0]), ite_f (by simp <;> omega), rValue_is (by decide) hr0 hr8, Option.bind_some, hrv, ite_f (by simp), pReadInt_is (by decide), Option.bind_some, rNumber_is, Option.bind_some]
  by_cases hb : b = [] ∨ (2 ≤ b.length ∧ spare b = true)
  · rw [if_pos hb, ite_t (by rcases hb with h | ⟨h3, h4⟩ <;> simp_all)]
    simp [gd_pos]
  · have hb0 : b ≠ [] := fun h => hb (.inl h)
    have hbs : (decide (2 ≤ b.length) && spare b) = false := by
      cases hs : spare b with
      | false => rw [Bool.and_false]
      | true => rw [Bool.and_true]; exact decide_eq_false fun h => hb (.inr ⟨h, hs⟩)
    rw [if_neg hb, hbs, ite_f (by simp [hb0])]
    by_cases h8 : 8 < b.length
    · rw [if_pos h8, ite_t (by simp <;> omega)]
      simp [gd_pos]
    · rw [if_neg h8, ite_f (by simp <;> omega), rValue_is (by decide) hb0 (by omega)]
      simp
end Go.Sx
namespace Go.Proofs.Ytliilihbnhdemaa
open Go.RowKit Go.Ch Go.Sx
theorem primInts_c (w : World) (n0 : Int) (hn0 : (Lit.int .i64 n0).wf = true) (B1 : Nat) (v1 : Value) (l1 : List UInt8) (hv1 : Sl w B1 v1 (l1.map bU)) :
    Calls Try.prog 3 #[.int .i64 n0, v1] w (Ret fun v' w' => Ext w w' ∧ v' = .bool true) := by
  have r0 : -9223372036854775808 ≤ n0 ∧ n0 < 9223372036854775808 := by simp [Lit.wf, IntKind.min, IntKind.max, IntKind.signed, IntKind.bits] at hn0; omega
  obtain ⟨p1, a1, b1⟩ := in_b hv1 5
  exact law_of (lInts_ok 1000 true) (args := [.c (.s (.k .i64 n0)), .c (.wh 0)]) (H := [⟨.ro false, 5, 1, l1.length, .b l1⟩]) (ρ := plL [p1]) (vals := [.int .i64 n0, v1]) rfl (allP_cons.2 ⟨lInts_is r0.1 r0.2 l1, allP_nil⟩) trivial (hpL (ps := [p1]) (F2.cons b1 F2.nil)) (F2.cons rfl (F2.cons a1 F2.nil))
end Go.Proofs.Ytliilihbnhdemaa
