import Derived.Test.YthichmclbiggmaaDoorZ4
import Derived.Test.YthichmclbiggmaaDoorProg
set_option linter.unusedVariables false
set_option linter.unusedSimpArgs false
section
namespace Go.Sx
open Go Go.RowKit Go.Ch Go.Proofs.YthichmclbiggmaaDoor
theorem wpos {l : List UInt32} (h : l.length ≠ 0) : nV l = nV (l.take (l.length - 1)) + 4294967296 ^ (l.length - 1) * (l.getD (l.length - 1) 0).toNat := by
 have h1 := V_take l (l.length - 1) (by omega)
 rwa [show l.length - 1 + 1 = l.length by omega, List.take_length] at h1
theorem lastD {l : List UInt32} (h : l ≠ []) : l.getLast h = l.getD (l.length - 1) 0 := by
 have : l.length - 1 < l.length := by have := List.length_pos_iff.2 h; omega
 rw [List.getLast_eq_getElem, List.getD_eq_getElem?_getD, List.getElem?_eq_getElem this]; rfl
theorem ptrim_l1_is (n : Nat) (a : List UInt32) (ha : a.length ≤ 1000000) : ∀ (k fu : Nat), k < fu → k ≤ a.length → nV (a.take k) = nV a →
  ∃ m, ptrim_l1 n a fu k = some (a, m) ∧ a.take m = nD (nV a) ∧ m = (nD (nV a)).length := by
 intro k
 have fin : ∀ k, k ≤ a.length → a.take k = nD (nV a) → k = (nD (nV a)).length := fun k h1 h2 => by rw [← h2, List.length_take]; omega
 induction k with
 | zero =>
  intro fu hf hk he
  cases fu with
  | zero => omega
  | succ fu =>
   have h0 : nV a = 0 := by rw [← he]; rfl
   have h1 : a.take 0 = nD (nV a) := by rw [h0, D_zero]; rfl
   exact ⟨0, by rw [ptrim_l1, ite_f (by simp)], h1, fin 0 hk h1⟩
 | succ k ih =>
  intro fu hf hk he
  cases fu with
  | zero => omega
  | succ fu =>
   have e : (((k + 1 : Nat) : Int) - 1).toNat = k := by omega
   rw [ptrim_l1, ite_t (by simp <;> omega), gd_pos (okI64 (by omega) (by omega)), gd_pos (by omega), gd_pos (by omega), e]
   have h1 := V_take a k (by omega)
   by_cases hz : a.getD k 0 = 0
   ·rw [ite_t (by rw [hz]; rfl), gd_pos (okI64 (by omega) (by omega)), gd_pos (by omega), gd_pos (by omega)]
    rw [hz] at h1
    exact ih fu (by omega) (by omega) (by rw [← he, h1]; rfl)
   ·rw [ite_f (by simp only [beq_eq_false_iff_ne]; exact hz)]
    have hl : (a.take (k + 1)).length = k + 1 := by rw [List.length_take]; omega
    have h2 : a.take (k + 1) = nD (nV a) := by
     rw [← he]
     refine (D_V fun hn => ?_).symm
     rw [lastD hn, hl, Nat.add_sub_cancel, List.getD_eq_getElem?_getD, List.getElem?_take_of_lt (by omega), ← List.getD_eq_getElem?_getD]
     exact hz
    exact ⟨k + 1, rfl, h2, fin _ hk h2⟩
theorem ptrim_tk {n : Nat} (hn : 18446744073709551616 ≤ n) {a : List UInt32} (ha : a.length ≤ 1000000) : ptrim n a = some (a, (nD (nV a)).length) ∧ (a.drop 0).take (nD (nV a)).length = nD (nV a) := by
 obtain ⟨m, h1, h2, h3⟩ := ptrim_l1_is n a ha a.length n (by omega) (Nat.le_refl _) (by rw [List.take_length])
 subst h3
 exact ⟨h1, h2⟩
theorem ptrim_is {n : Nat} (hn : 18446744073709551616 ≤ n) {a : List UInt32} (ha : a.length ≤ 1000000) : ptrim n a = some (a, (nD (nV a)).length) := (ptrim_tk hn ha).1
theorem tk {a : List UInt32} (ha : a.length ≤ 1000000) : (a.drop 0).take (nD (nV a)).length = nD (nV a) := (ptrim_tk (n := 18446744073709551616) (Nat.le_refl _) ha).2
theorem D_le {a : List UInt32} : (nD (nV a)).length ≤ a.length := (D_len _ _).2 (V_lt a)
theorem pmay_is {n : Nat} (hn : 18446744073709551616 ≤ n) {a b : List UInt32} (ha : a.length ≤ 1000000) (hb : b.length ≤ 1000000) :
  pmay n a b = some (nD (nV a), (nD (nV a)).length, nD (nV b), (nD (nV b)).length, decide ((nD (nV a)).length ≤ 64 ∧ (nD (nV b)).length ≤ 64)) := by
 unfold pmay
 rw [ptrim_is hn ha, ptrim_is hn hb]
 simp only [Option.bind_some, tk ha, tk hb]
 show (bif decide ((((nD (nV a)).length : Nat) : Int) ≤ 64) then _ else _) = _
 by_cases h : (nD (nV a)).length ≤ 64
 ·rw [ite_t (by simp; omega)]
  congr 5
  simp [h]; omega
 ·rw [ite_f (by simp; omega)]
  simp [h]
theorem cCmp_is (n : Nat) (x y : Int) : cCmp n x y = some (if x < y then -1 else if y < x then 1 else 0) := by
 unfold cCmp cisNaN
 simp only [Option.bind_some, bne_self_eq_false, cond_false]
 by_cases h : x < y
 ·simp [h]
 ·by_cases h2 : y < x <;> simp [h, h2]
theorem cCmp32_is (n : Nat) (x y : UInt32) : cCmp32 n x y = some (if x.toNat < y.toNat then -1 else if y.toNat < x.toNat then 1 else 0) := by
 unfold cCmp32 cisNaN32
 simp only [Option.bind_some, bne_self_eq_false, cond_false, ← UInt32.lt_iff_toNat_lt]
 by_cases h : x < y
 ·simp [h]
 ·by_cases h2 : y < x <;> simp [h, h2]
def cmpN (x y : Nat) : Int := if x < y then -1 else if y < x then 1 else 0
theorem cmpN_lt {x y : Nat} (h : x < y) : cmpN x y = -1 := if_pos h
theorem cmpN_gt {x y : Nat} (h : y < x) : cmpN x y = 1 := by unfold cmpN; rw [if_neg (by omega), if_pos h]
theorem cmpN_eq {x y : Nat} (h : x = y) : cmpN x y = 0 := by unfold cmpN; rw [if_neg (by omega), if_neg (by omega)]
theorem cmpN_neg {x y : Nat} : cmpN x y < 0 ↔ x < y := by unfold cmpN; split <;> (try split) <;> omega
theorem mul_pow_lt {p x y c d : Nat} (hc : c < p) (h : x < y) : c + p * x < d + p * y := by
 have : p * (x + 1) ≤ p * y := Nat.mul_le_mul_left p h
 rw [Nat.mul_add] at this; omega
theorem pCmp_l1_is (n : Nat) (a b x y u v : List UInt32) (lu : Nat) (hu : (a.drop 0).take lu = u) (hv : (b.drop 0).take lu = v) (h1 : u.length = lu) (h2 : v.length = lu) (hlu : lu ≤ 1000000) : ∀ (j fu : Nat), j < fu → j ≤ lu → nV (u.drop j) = nV (v.drop j) →
  pCmp_l1 n a b (x, lu) (y, lu) fu ((j : Int) - 1) = some (cmpN (nV u) (nV v)) := by
 intro j
 induction j with
 | zero =>
  intro fu hf _ he
  cases fu with
  | zero => omega
  | succ fu => rw [pCmp_l1, ite_f (by simp), cmpN_eq (by simpa using he)]
 | succ j ih =>
  intro fu hf hj he
  cases fu with
  | zero => omega
  | succ fu =>
   have e : (((j + 1 : Nat) : Int) - 1) = (j : Int) := by omega
   have e1 := V_drop u j (by omega)
   have e2 := V_drop v j (by omega)
   have s1 := V_split u j
   have s2 := V_split v j
   have l1 := V_lt (u.take j)
   have l2 := V_lt (v.take j)
   have m1 : (u.take j).length = j := by simp; omega
   have m2 : (v.take j).length = j := by simp; omega
   rw [m1] at l1; rw [m2] at l2
   rw [e, pCmp_l1, ite_t (by simp), gd_pos (by omega), gd_pos (by omega), gd_pos (by omega), gd_pos (by omega), cCmp32_is]
   simp only [Option.bind_some, Int.toNat_natCast, hu, hv]
   by_cases hlt : (u.getD j 0).toNat < (v.getD j 0).toNat
   ·rw [if_pos hlt, ite_t (by rfl), cmpN_lt]
    rw [s1, s2]
    exact mul_pow_lt l1 (by omega)
   ·by_cases hgt : (v.getD j 0).toNat < (u.getD j 0).toNat
    ·rw [if_neg hlt, if_pos hgt, ite_t (by rfl), cmpN_gt]
     rw [s1, s2]
     exact mul_pow_lt l2 (by omega)
    ·rw [if_neg hlt, if_neg hgt, ite_f (by rfl), gd_pos (okI64 (by omega) (by omega))]
     exact ih fu (by omega) (by omega) (by omega)
theorem pCmp_is {n : Nat} (hn : 18446744073709551616 ≤ n) {a b : List UInt32} (ha : a.length ≤ 1000000) (hb : b.length ≤ 1000000) : pCmp n a b = some (cmpN (nV a) (nV b)) := by
 have la := D_le (a := a)
 have lb := D_le (a := b)
 unfold pCmp
 rw [ptrim_is hn ha, ptrim_is hn hb]
 simp only [Option.bind_some]
 rw [cCmp_is]
 simp only [Option.bind_some]
 by_cases h : (nD (nV a)).length < (nD (nV b)).length
 ·rw [if_pos (by omega), ite_t (by rfl), cmpN_lt]
  have h1 := (D_len (nV a) (nD (nV a)).length).1 (by omega)
  have h2 := mt (D_len (nV b) (nD (nV a)).length).2 (by omega)
  omega
 ·by_cases h' : (nD (nV b)).length < (nD (nV a)).length
  ·rw [if_neg (by omega), if_pos (by omega), ite_t (by rfl), cmpN_gt]
   have h1 := (D_len (nV b) (nD (nV b)).length).1 (by omega)
   have h2 := mt (D_len (nV a) (nD (nV b)).length).2 (by omega)
   omega
  ·rw [if_neg (by omega), if_neg (by omega), ite_f (by rfl), gd_pos (okI64 (by omega) (by omega))]
   have hl : (nD (nV b)).length = (nD (nV a)).length := by omega
   have := pCmp_l1_is n a b a b (nD (nV a)) (nD (nV b)) (nD (nV a)).length (tk ha) (by rw [← hl]; exact tk hb) rfl hl (by omega) (nD (nV a)).length n (by omega) (by omega) (by
    rw [List.drop_of_length_le (by omega), List.drop_of_length_le (by omega)])
   rw [V_D, V_D] at this
   rw [hl]; exact this
theorem V_take' (l : List UInt32) (i : Nat) : nV (l.take (i + 1)) = nV (l.take i) + 4294967296 ^ i * (l.getD i 0).toNat := by
 by_cases h : i < l.length
 ·exact V_take l i h
 ·rw [List.take_of_length_le (by omega), List.take_of_length_le (by omega), List.getD_eq_getElem?_getD, List.getElem?_eq_none (by omega)]; simp
def Nz (l : List UInt32) (i : Nat) : Prop := ∀ k, i ≤ k → l.getD k 0 = 0
theorem Nz.rep (n : Nat) : Nz (List.replicate n 0) 0 := by
 intro k _
 rw [List.getD_eq_getElem?_getD, List.getElem?_replicate]; split <;> rfl
theorem Nz.set {l : List UInt32} {i : Nat} (h : Nz l i) (x : UInt32) : Nz (l.set i x) (i + 1) := by
 intro k hk
 have := h k (by omega)
 rw [List.getD_eq_getElem?_getD] at *
 rw [List.getElem?_set_ne (by omega)]; exact this
theorem Nz.V_set {l : List UInt32} {i : Nat} (h : Nz l i) (x : UInt32) (hi : i < l.length) : nV (l.set i x) = nV l + 4294967296 ^ i * x.toNat := by
 have := Go.Sx.V_set l i x hi
 rw [h i (by omega)] at this
 simpa using this
theorem shr64_is (x : UInt64) (k : Nat) (h : k < 64) : (shr64 x (k : Int)).toNat = x.toNat / 2 ^ k := by
 unfold shr64
 rw [if_pos (by omega), Int.toNat_natCast, UInt64.toNat_shiftRight]
 have : (UInt64.ofNat k).toNat % 64 = k := by simp; omega
 rw [this, Nat.shiftRight_eq_div_pow]
theorem u64_32 (x : UInt32) : x.toUInt64.toNat = x.toNat := UInt32.toNat_toUInt64 x
theorem u32_64 (x : UInt64) : x.toUInt32.toNat = x.toNat % 4294967296 := UInt64.toNat_toUInt32 x
theorem u64_add (x y : UInt64) : (x + y).toNat = (x.toNat + y.toNat) % 18446744073709551616 := UInt64.toNat_add x y
theorem u64_mul (x y : UInt64) : (x * y).toNat = (x.toNat * y.toNat) % 18446744073709551616 := UInt64.toNat_mul x y
theorem u64_sub (x y : UInt64) : (x - y).toNat = (18446744073709551616 - y.toNat + x.toNat) % 18446744073709551616 := UInt64.toNat_sub x y
theorem u64_lt (x : UInt64) : x.toNat < 18446744073709551616 := x.toNat_lt
theorem pow1 (i : Nat) : 4294967296 ^ (i + 1) = 4294967296 * 4294967296 ^ i := by rw [Nat.pow_succ, Nat.mul_comm]
theorem D_mono {x y : Nat} (h : x ≤ y) : (nD x).length ≤ (nD y).length := (D_len _ _).2 (Nat.lt_of_le_of_lt h ((D_len _ _).1 (Nat.le_refl _)))
theorem pCmp_D {n : Nat} (hn : 18446744073709551616 ≤ n) {x y : Nat} (hx : (nD x).length ≤ 1000000) (hy : (nD y).length ≤ 1000000) : pCmp n (nD x) (nD y) = some (cmpN x y) := by
 have := pCmp_is hn hx hy
 rwa [V_D, V_D] at this
theorem getD_rep0 (n k : Nat) : (List.replicate n (0 : UInt32)).getD k 0 = 0 := Nz.rep n k (Nat.zero_le _)
theorem ptimes_l2_is (n : Nat) (a b : List UInt32) (ha : a.length ≤ 900000) (hb : b.length ≤ 90000) (i : Nat) (hi : i < a.length) (K : List UInt32 → Int → Option (List UInt32 × Nat)) (v0 : Nat) :
  ∀ (m k fu : Nat) (w : List UInt32) (c : UInt64), k + m = b.length → m < fu → w.length = a.length + b.length → Nz w (i + b.length) → nV w + 4294967296 ^ (i + k) * c.toNat = v0 + 4294967296 ^ i * ((a.getD i 0).toNat * nV (b.take k)) → c.toNat < 4294967296 →
  ∃ w' : List UInt32, w'.length = a.length + b.length ∧ Nz w' (i + 1 + b.length) ∧ nV w' = v0 + 4294967296 ^ i * ((a.getD i 0).toNat * nV b) ∧ ptimes_l2 n a b (i : Int) K fu w c (k : Int) = K w' ((i + 1 : Nat) : Int) := by
 intro m
 induction m with
 | zero =>
  intro k fu w c hk hf hw hz hv hc
  cases fu with
  | zero => omega
  | succ fu =>
   refine ⟨w.set (i + b.length) c.toUInt32, by rw [List.length_set]; exact hw, ?_, ?_, ?_⟩
   ·have := hz.set c.toUInt32
    rwa [show i + b.length + 1 = i + 1 + b.length by omega] at this
   ·rw [hz.V_set _ (by omega), u32_64, Nat.mod_eq_of_lt hc]
    rwa [List.take_of_length_le (by omega), show k = b.length by omega] at hv
   ·rw [ptimes_l2, ite_f (by simp; omega), gd_pos (okI64 (by omega) (by omega)), gd_pos (by omega), gd_pos (by omega), gd_pos (okI64 (by omega) (by omega))]
    rw [show ((i : Int) + (b.length : Nat)).toNat = i + b.length by omega]; rfl
 | succ m ih =>
  intro k fu w c hk hf hw hz hv hc
  cases fu with
  | zero => omega
  | succ fu =>
   have e1 : ((i : Int) + (k : Nat)).toNat = i + k := by omega
   rw [ptimes_l2, ite_t (by simp; omega), gd_pos (by omega), gd_pos (by omega), gd_pos (okI64 (by omega) (by omega)), gd_pos (by omega), gd_pos (by omega), gd_pos (okI64 (by omega) (by omega)), gd_pos (by omega), gd_pos (by omega), gd_pos (by omega), gd_pos (okI64 (by omega) (by omega))]
   rw [e1, Int.toNat_natCast, Int.toNat_natCast]
   have hA := u32_lt (a.getD i 0)
   have hB := u32_lt (b.getD k 0)
   have hW := u32_lt (w.getD (i + k) 0)
   have hAB : (a.getD i 0).toNat * (b.getD k 0).toNat ≤ 4294967295 * 4294967295 := Nat.mul_le_mul (by omega) (by omega)
   generalize hs : c + ((a.getD i 0).toUInt64 * (b.getD k 0).toUInt64 + (w.getD (i + k) 0).toUInt64) = s
   have es : s.toNat = c.toNat + ((a.getD i 0).toNat * (b.getD k 0).toNat + (w.getD (i + k) 0).toNat) := by
    rw [← hs, u64_add, u64_add, u64_mul, u64_32, u64_32, u64_32]; omega
   have ec : (shr64 s 32).toNat = s.toNat / 4294967296 := shr64_is s 32 (by decide)
   have hV := V_set w (i + k) s.toUInt32 (by omega)
   refine ih (k + 1) fu _ _ (by omega) (by omega) (by rw [List.length_set]; exact hw) ?_ ?_ (by rw [ec]; omega)
   ·intro q hq
    rw [getD_set_ne _ _ (by omega)]; exact hz q hq
   ·rw [ec, V_take', show i + (k + 1) = (i + k) + 1 by omega, pow1]
    rw [u32_64] at hV
    rw [Nat.pow_add] at *
    have hd := Nat.mod_add_div s.toNat 4294967296
    generalize s.toNat % 4294967296 = x at *
    generalize s.toNat / 4294967296 = y at *
    generalize 4294967296 ^ i = p at *
    generalize 4294967296 ^ k = q at *
    clear ec hs hAB hA hB hW ih
    grind
theorem ptimes_l1_is {n : Nat} (hn : 18446744073709551616 ≤ n) (a b : List UInt32) (ha : a.length ≤ 900000) (hb : b.length ≤ 90000) :
  ∀ (m i fu : Nat) (w : List UInt32), i + m = a.length → m < fu → w.length = a.length + b.length → Nz w (i + b.length) → nV w = nV (a.take i) * nV b →
  ptimes_l1 n a b fu w (i : Int) = some (nD (nV a * nV b), (nD (nV a * nV b)).length) := by
 intro m
 induction m with
 | zero =>
  intro i fu w hi hf hw hz hv
  cases fu with
  | zero => omega
  | succ fu =>
   rw [List.take_of_length_le (by omega)] at hv
   rw [ptimes_l1, ite_f (by simp; omega), ptrim_is hn (by omega)]
   simp only [Option.bind_some, tk (show w.length ≤ 1000000 by omega)]
   rw [hv]
 | succ m ih =>
  intro i fu w hi hf hw hz hv
  cases fu with
  | zero => omega
  | succ fu =>
   rw [ptimes_l1, ite_t (by simp; omega), gd_pos (by omega), gd_pos (by omega)]
   obtain ⟨w', h1, h2, h3, h4⟩ := ptimes_l2_is n a b ha hb i (by omega) (ptimes_l1 n a b fu) (nV w) b.length 0 n w 0 (by omega) (by omega) hw hz (by simp [V_nil]) (by decide)
   have h4' : ptimes_l2 n a b (i : Int) (ptimes_l1 n a b fu) n w 0 0 = _ := h4
   rw [h4']
   refine ih (i + 1) fu w' (by omega) (by omega) h1 h2 ?_
   rw [h3, hv, V_take']; grind
theorem ptimes_is {n : Nat} (hn : 18446744073709551616 ≤ n) {a b : List UInt32} (ha : a.length ≤ 90000) (hb : b.length ≤ 90000) : ptimes n a b = some (nD (nV a * nV b), (nD (nV a * nV b)).length) := by
 unfold ptimes
 rw [gd_pos (okI64 (by omega) (by omega)), gd_pos (by omega), gd_pos (by trivial), gd_pos (by unfold rmB; omega)]
 refine ptimes_l1_is hn a b (by omega) hb a.length 0 n _ (by omega) (by omega) (by simp; omega) ?_ (by simp [V_rep, V_nil])
 intro k _
 exact getD_rep0 _ _
theorem ptimes_D {n : Nat} (hn : 18446744073709551616 ≤ n) {x y : Nat} (hx : (nD x).length ≤ 90000) (hy : (nD y).length ≤ 90000) : ptimes n (nD x) (nD y) = some (nD (x * y), (nD (x * y)).length) := by
 have := ptimes_is hn hx hy
 rwa [V_D, V_D] at this
theorem shl64_or (r : UInt64) (x : UInt32) (h : r.toNat < 4294967296) : ((shl64 r 32) ||| x.toUInt64).toNat = r.toNat * 4294967296 + x.toNat := by
 have hx := u32_lt x
 have e : shl64 r 32 = r <<< 32 := rfl
 rw [e, UInt64.toNat_or, UInt64.toNat_shiftLeft, u64_32]
 have e2 : (32 : UInt64).toNat % 64 = 32 := rfl
 rw [e2, Nat.shiftLeft_eq, Nat.mod_eq_of_lt (by omega)]
 have := Nat.shiftLeft_add_eq_or_of_lt (i := 32) hx r.toNat
 rw [← Nat.shiftLeft_eq, ← this]
theorem pshort_l1_is {n : Nat} (hn : 18446744073709551616 ≤ n) (a : List UInt32) (b : UInt32) (hb : b.toNat ≠ 0) (ha : a.length ≤ 1000000) :
  ∀ (j fu : Nat) (w : List UInt32) (r : UInt64), j < fu → j ≤ a.length → w.length = a.length → (∀ k, k < j → w.getD k 0 = 0) → nV w * b.toNat + 4294967296 ^ j * r.toNat + nV (a.take j) = nV a → r.toNat < b.toNat →
  pshort_l1 n a b fu w r ((j : Int) - 1) = some (nD (nV a / b.toNat), (nD (nV a / b.toNat)).length, nD (nV a % b.toNat), (nD (nV a % b.toNat)).length) := by
 intro j
 have hB := u32_lt b
 induction j with
 | zero =>
  intro fu w r hf hj hw hz hv hr
  cases fu with
  | zero => omega
  | succ fu =>
   simp only [Nat.pow_zero, Nat.one_mul, List.take_zero, V_nil, Nat.add_zero] at hv
   have hq : nV a / b.toNat = nV w := by rw [← hv, Nat.add_comm, Nat.add_mul_div_right _ _ (by omega), Nat.div_eq_of_lt hr, Nat.zero_add]
   have hm : nV a % b.toNat = r.toNat := by rw [← hv, Nat.add_comm, Nat.add_mul_mod_self_right, Nat.mod_eq_of_lt hr]
   have hx : nV [r.toUInt32] = r.toNat := by rw [V_cons, V_nil, u32_64]; omega
   rw [pshort_l1, ite_f (by simp), ptrim_is hn (by omega), ptrim_is hn (by simp)]
   simp only [Option.bind_some, tk (show w.length ≤ 1000000 by omega), tk (show [r.toUInt32].length ≤ 1000000 by simp)]
   rw [hx, hq, hm]
 | succ j ih =>
  intro fu w r hf hj hw hz hv hr
  cases fu with
  | zero => omega
  | succ fu =>
   have hb0 : b.toUInt64 ≠ 0 := fun h => hb (by rw [← u64_32, h]; rfl)
   rw [show ((j + 1 : Nat) : Int) - 1 = (j : Int) by omega, pshort_l1, ite_t (by simp), gd_pos (by omega), gd_pos (by omega), gd_pos (by omega), gd_pos hb0, gd_pos hb0, gd_pos (by omega), gd_pos (by omega), gd_pos (okI64 (by omega) (by omega)), Int.toNat_natCast]
   have hA := u32_lt (a.getD j 0)
   have es := shl64_or r (a.getD j 0) (by omega)
   generalize hs : shl64 r 32 ||| (a.getD j 0).toUInt64 = s at *
   have hV := V_set w j (s / b.toUInt64).toUInt32 (by omega)
   rw [hz j (by omega), u32_64, UInt64.toNat_div, u64_32] at hV
   have hlt : s.toNat / b.toNat < 4294967296 := by
    rw [Nat.div_lt_iff_lt_mul (by omega), es]
    have : r.toNat * 4294967296 + 4294967296 ≤ b.toNat * 4294967296 := by have := Nat.mul_le_mul_right 4294967296 (show r.toNat + 1 ≤ b.toNat by omega); omega
    omega
   rw [Nat.mod_eq_of_lt hlt] at hV
   have hsm : (s % b.toUInt64).toNat = s.toNat % b.toNat := by rw [UInt64.toNat_mod, u64_32]
   refine ih fu _ _ (by omega) (by omega) (by rw [List.length_set]; exact hw) ?_ ?_ (by rw [hsm]; exact Nat.mod_lt _ (by omega))
   ·intro k hk
    rw [getD_set_ne _ _ (by omega)]; exact hz k (by omega)
   ·rw [hsm]
    rw [V_take', pow1] at hv
    have hd := Nat.mod_add_div s.toNat b.toNat
    generalize s.toNat % b.toNat = x at *
    generalize s.toNat / b.toNat = y at *
    generalize 4294967296 ^ j = p at *
    simp only [UInt32.toNat_zero, Nat.mul_zero, Nat.add_zero] at hV
    rw [hV]
    clear hsm hlt hs ih hb0 hz
    grind
theorem pshort_is {n : Nat} (hn : 18446744073709551616 ≤ n) {a : List UInt32} {b : UInt32} (hb : b.toNat ≠ 0) (ha : a.length ≤ 1000000) :
  pshort n a b = some (nD (nV a / b.toNat), (nD (nV a / b.toNat)).length, nD (nV a % b.toNat), (nD (nV a % b.toNat)).length) := by
 unfold pshort
 rw [gd_pos (by omega), gd_pos (by trivial), gd_pos (by unfold rmB; omega), gd_pos (okI64 (by omega) (by omega))]
 exact pshort_l1_is hn a b hb ha a.length n _ 0 (by omega) (Nat.le_refl _) (by simp) (fun k _ => getD_rep0 _ _) (by simp [V_rep]) (by show 0 < _; omega)
def len8 : List UInt8 := [0, 1, 2, 2, 3, 3, 3, 3, 4, 4, 4, 4, 4, 4, 4, 4, 5, 5, 5, 5, 5, 5, 5, 5, 5, 5, 5, 5, 5, 5, 5, 5, 6, 6, 6, 6, 6, 6, 6, 6, 6, 6, 6, 6, 6, 6, 6, 6, 6, 6, 6, 6, 6, 6, 6, 6, 6, 6, 6, 6, 6, 6, 6, 6, 7, 7, 7, 7, 7, 7, 7, 7, 7, 7, 7, 7, 7, 7, 7, 7, 7, 7, 7, 7, 7, 7, 7, 7, 7, 7, 7, 7, 7, 7, 7, 7, 7, 7, 7, 7, 7, 7, 7, 7, 7, 7, 7, 7, 7, 7, 7, 7, 7, 7, 7, 7, 7, 7, 7, 7, 7, 7, 7, 7, 7, 7, 7, 7, 8, 8, 8, 8, 8, 8, 8, 8, 8, 8, 8, 8, 8, 8, 8, 8, 8, 8, 8, 8, 8, 8, 8, 8, 8, 8, 8, 8, 8, 8, 8, 8, 8, 8, 8, 8, 8, 8, 8, 8, 8, 8, 8, 8, 8, 8, 8, 8, 8, 8, 8, 8, 8, 8, 8, 8, 8, 8, 8, 8, 8, 8, 8, 8, 8, 8, 8, 8, 8, 8, 8, 8, 8, 8, 8, 8, 8, 8, 8, 8, 8, 8, 8, 8, 8, 8, 8, 8, 8, 8, 8, 8, 8, 8, 8, 8, 8, 8, 8, 8, 8, 8, 8, 8, 8, 8, 8, 8, 8, 8, 8, 8, 8, 8, 8, 8, 8, 8, 8, 8, 8, 8, 8, 8, 8, 8, 8, 8]
theorem len8_is : ∀ k, k < 256 → (k ≠ 0 → 2 ^ ((len8.getD k 0).toNat - 1) ≤ k ∧ 1 ≤ (len8.getD k 0).toNat) ∧ k < 2 ^ (len8.getD k 0).toNat ∧ (len8.getD k 0).toNat ≤ 8 := by decide +kernel
set_option maxRecDepth 20000 in
theorem blen32_j2_is (n : Nat) (x : UInt32) (i : Nat) (hx : x.toNat < 256) (hi : i ≤ 100) : blen32_j2 n x (i : Int) = some (((i + (len8.getD x.toNat 0).toNat : Nat) : Int)) := by
 have e : x.toUInt8.toNat = x.toNat := by rw [UInt32.toNat_toUInt8]; omega
 have h := (len8_is x.toNat hx).2.2
 show (gd (0 ≤ ((x.toUInt8.toNat : Nat) : Int)) <| gd (((x.toUInt8.toNat : Nat) : Int) < ((len8.length : Nat) : Int)) <| gd (okI .i64 ((i : Int) + (((len8.getD ((x.toUInt8.toNat : Nat) : Int).toNat 0).toNat : Nat) : Int))) <| some ((i : Int) + (((len8.getD ((x.toUInt8.toNat : Nat) : Int).toNat 0).toNat : Nat) : Int))) = _
 rw [e, Int.toNat_natCast, gd_pos (by omega), gd_pos (by show (x.toNat : Int) < 256; omega), gd_pos (okI64 (by omega) (by omega))]
 simp
theorem shr32_is (x : UInt32) (k : Nat) (h : k < 32) : (shr32 x (k : Int)).toNat = x.toNat / 2 ^ k := by
 unfold shr32
 rw [if_pos (by omega), Int.toNat_natCast, UInt32.toNat_shiftRight]
 have : (UInt32.ofNat k).toNat % 32 = k := by simp; omega
 rw [this, Nat.shiftRight_eq_div_pow]
def Bits (x l : Nat) : Prop := 1 ≤ l ∧ 2 ^ (l - 1) ≤ x ∧ x < 2 ^ l
theorem blen32_is (n : Nat) (x : UInt32) (hx : x.toNat ≠ 0) : ∃ l : Nat, l ≤ 32 ∧ Bits x.toNat l ∧ blen32 n x = some (l : Int) := by
 have hX := u32_lt x
 have two : ∀ (y : UInt32) (i : Nat), i ≤ 16 → y.toNat < 65536 → y.toNat ≠ 0 → ∃ l : Nat, l ≤ 16 ∧ Bits y.toNat l ∧ blen32_j1 n y (i : Int) = some ((i + l : Nat) : Int) := by
  intro y i hi hy h0
  unfold blen32_j1
  by_cases h : 256 ≤ y.toNat
  ·have e : (shr32 y 8).toNat = y.toNat / 256 := shr32_is y 8 (by decide)
   rw [ite_t (by simp [UInt32.le_iff_toNat_le]; exact h), gd_pos (by omega), gd_pos (okI64 (by omega) (by omega))]
   have := blen32_j2_is n (shr32 y 8) (i + 8) (by rw [e]; omega) (by omega)
   obtain ⟨h1, h2, h3⟩ := len8_is (shr32 y 8).toNat (by rw [e]; omega)
   obtain ⟨h1, h4⟩ := h1 (by rw [e]; omega)
   generalize (len8.getD (shr32 y 8).toNat 0).toNat = l at *
   refine ⟨8 + l, by omega, ⟨by omega, ?_, ?_⟩, ?_⟩
   ·rw [show 8 + l - 1 = 8 + (l - 1) by omega, Nat.pow_add]
    rw [e] at h1; omega
   ·rw [Nat.pow_add]
    rw [e] at h2; omega
   ·rw [show (i : Int) + 8 = ((i + 8 : Nat) : Int) by omega, this, Nat.add_assoc]
  ·rw [ite_f (by simp [UInt32.le_iff_toNat_le]; exact Nat.lt_of_not_le h)]
   have := blen32_j2_is n y i (by omega) (by omega)
   obtain ⟨h1, h2, h3⟩ := len8_is y.toNat (by omega)
   obtain ⟨h1, h4⟩ := h1 (by omega)
   exact ⟨_, by omega, ⟨h4, h1, h2⟩, this⟩
 unfold blen32
 by_cases h : 65536 ≤ x.toNat
 ·have e : (shr32 x 16).toNat = x.toNat / 65536 := shr32_is x 16 (by decide)
  rw [ite_t (by simp [UInt32.le_iff_toNat_le]; exact h), gd_pos (by omega)]
  obtain ⟨l, h1, ⟨h2, h3, h4⟩, h5⟩ := two (shr32 x 16) 16 (by omega) (by rw [e]; omega) (by rw [e]; omega)
  refine ⟨16 + l, by omega, ⟨by omega, ?_, ?_⟩, h5⟩
  ·rw [show 16 + l - 1 = 16 + (l - 1) by omega, Nat.pow_add]
   rw [e] at h3; omega
  ·rw [Nat.pow_add]
   rw [e] at h4; omega
 ·rw [ite_f (by simp [UInt32.le_iff_toNat_le]; exact Nat.lt_of_not_le h)]
  obtain ⟨l, h1, h2, h3⟩ := two x 0 (by omega) (by omega) hx
  exact ⟨l, by omega, h2, by simpa using h3⟩
theorem bclz32_is (n : Nat) (x : UInt32) (hx : x.toNat ≠ 0) : ∃ s : Nat, s < 32 ∧ 2147483648 ≤ x.toNat * 2 ^ s ∧ x.toNat * 2 ^ s < 4294967296 ∧ bclz32 n x = some (s : Int) := by
 obtain ⟨l, h1, ⟨h2, h3, h4⟩, h5⟩ := blen32_is n x hx
 refine ⟨32 - l, by omega, ?_, ?_, ?_⟩
 ·have := Nat.mul_le_mul_right (2 ^ (32 - l)) h3
  rw [← Nat.pow_add, show l - 1 + (32 - l) = 31 by omega] at this
  exact this
 ·have := (Nat.mul_lt_mul_right (Nat.pow_pos (n := 32 - l) (show 0 < 2 by decide))).2 h4
  rw [← Nat.pow_add, show l + (32 - l) = 32 by omega] at this
  exact this
 ·unfold bclz32
  rw [h5]
  show gd (okI .i64 (32 - (l : Int))) _ = _
  rw [gd_pos (okI64 (by omega) (by omega)), show (32 : Int) - l = ((32 - l : Nat) : Int) by omega]
theorem shl32_or (o x : UInt32) (s : Nat) (hs : s < 32) (ho : o.toNat < 2 ^ s) : (o ||| shl32 x (s : Int)).toNat = o.toNat + x.toNat * 2 ^ s % 4294967296 := by
 have hX := u32_lt x
 have e : (shl32 x (s : Int)).toNat = x.toNat * 2 ^ s % 4294967296 := by
  unfold shl32
  rw [if_pos (by omega), Int.toNat_natCast, UInt32.toNat_shiftLeft]
  have : (UInt32.ofNat s).toNat % 32 = s := by simp; omega
  rw [this, Nat.shiftLeft_eq]
 have e2 : x.toNat * 2 ^ s % 4294967296 = (x.toNat % 2 ^ (32 - s)) <<< s := by
  rw [Nat.shiftLeft_eq, show (4294967296 : Nat) = 2 ^ (32 - s) * 2 ^ s by rw [← Nat.pow_add, show 32 - s + s = 32 by omega], Nat.mul_mod_mul_right]
 rw [UInt32.toNat_or, e, e2, Nat.or_comm, ← Nat.shiftLeft_add_eq_or_of_lt ho, Nat.add_comm]
theorem shr_shl (x : UInt32) (s : Nat) (hs : s ≤ 32) : (shl64 x.toUInt64 (s : Int)).toNat = x.toNat * 2 ^ s := by
 have hX := u32_lt x
 unfold shl64
 rw [if_pos (by omega), Int.toNat_natCast, UInt64.toNat_shiftLeft, u64_32]
 have : (UInt64.ofNat s).toNat % 64 = s := by simp; omega
 rw [this, Nat.shiftLeft_eq, Nat.mod_eq_of_lt]
 have h1 : 2 ^ s ≤ 2 ^ 32 := Nat.pow_le_pow_right (by decide) hs
 have h2 := Nat.mul_le_mul (show _ ≤ 4294967295 from Nat.le_of_lt_succ hX) h1
 omega
theorem pshift_l1_is (n : Nat) (a : List UInt32) (s : Nat) (hs : s < 32) (ha : a.length ≤ 1000000) : ∀ (m i fu : Nat) (w : List UInt32), i + m = a.length → m < fu → w.length = a.length + 1 → Nz w (i + 1) → (w.getD i 0).toNat < 2 ^ s → nV w = 2 ^ s * nV (a.take i) →
  ∃ u, pshift_l1 n a (s : Int) fu w (i : Int) = some (u, a.length + 1) ∧ u.length = a.length + 1 ∧ nV u = 2 ^ s * nV a := by
 intro m
 induction m with
 | zero =>
  intro i fu w hi hf hw hz hl hv
  cases fu with
  | zero => omega
  | succ fu =>
   rw [List.take_of_length_le (by omega)] at hv
   exact ⟨w, by rw [pshift_l1, ite_f (by simp; omega)]; rfl, hw, hv⟩
 | succ m ih =>
  intro i fu w hi hf hw hz hl hv
  cases fu with
  | zero => omega
  | succ fu =>
   have e1 : ((i : Int) + 1).toNat = i + 1 := by omega
   rw [pshift_l1, ite_t (by simp; omega), gd_pos (by omega), gd_pos (by omega), gd_pos (by omega), gd_pos (by omega), gd_pos (by omega), gd_pos (by omega), gd_pos (by omega), gd_pos (okI64 (by omega) (by omega)), gd_pos (by omega), gd_pos (by omega), gd_pos (by omega), gd_pos (by omega), gd_pos (okI64 (by omega) (by omega)), e1, Int.toNat_natCast]
   have hX := u32_lt (a.getD i 0)
   have es := shl32_or (w.getD i 0) (a.getD i 0) s hs hl
   generalize hx : w.getD i 0 ||| shl32 (a.getD i 0) (s : Int) = x at *
   have ey : ((shr64 (shl64 ((a.getD i 0).toUInt64) (s : Int)) 32).toUInt32).toNat = (a.getD i 0).toNat * 2 ^ s / 4294967296 := by
    rw [u32_64]
    have := shr64_is (shl64 ((a.getD i 0).toUInt64) (s : Int)) 32 (by decide)
    rw [shr_shl _ _ (by omega)] at this
    rw [show shr64 (shl64 (a.getD i 0).toUInt64 ↑s) 32 = shr64 (shl64 (a.getD i 0).toUInt64 ↑s) ((32 : Nat) : Int) from rfl, this]
    have h1 : 2 ^ s ≤ 2 ^ 32 := Nat.pow_le_pow_right (by decide) (by omega)
    have h2 := Nat.mul_le_mul (show _ ≤ 4294967295 from Nat.le_of_lt_succ hX) h1
    omega
   generalize hy : (shr64 (shl64 ((a.getD i 0).toUInt64) (s : Int)) 32).toUInt32 = y at *
   have hyl : y.toNat < 2 ^ s := by
    rw [ey, Nat.div_lt_iff_lt_mul (by decide), Nat.mul_comm]
    exact Nat.mul_lt_mul_of_pos_left hX (Nat.pow_pos (by decide))
   have h1 := V_set w i x (by omega)
   have h2 := V_set (w.set i x) (i + 1) y (by rw [List.length_set]; omega)
   rw [getD_set_ne _ _ (by omega), hz (i + 1) (by omega)] at h2
   refine ih (i + 1) fu _ (by omega) (by omega) (by simp; exact hw) ?_ ?_ ?_
   ·intro k hk
    rw [getD_set_ne _ _ (by omega), getD_set_ne _ _ (by omega)]; exact hz k (by omega)
   ·rw [getD_set_eq _ _ (by rw [List.length_set]; omega)]; exact hyl
   ·rw [V_take']
    rw [es] at h1
    rw [ey, pow1] at h2
    have hd := Nat.mod_add_div ((a.getD i 0).toNat * 2 ^ s) 4294967296
    generalize (a.getD i 0).toNat * 2 ^ s % 4294967296 = d at *
    generalize hq : (a.getD i 0).toNat * 2 ^ s / 4294967296 = q at *
    generalize 4294967296 ^ i = p at *
    simp only [UInt32.toNat_zero, Nat.mul_zero, Nat.add_zero] at h2
    rw [h2]
    clear ih hx hy hz hl hq
    grind
theorem pshift_is {n : Nat} (hn : 18446744073709551616 ≤ n) {a : List UInt32} {s : Nat} (hs : s < 32) (ha : a.length ≤ 100000) :
  ∃ u, pshift n a (s : Int) = some (u, a.length + 1) ∧ u.length = a.length + 1 ∧ nV u = 2 ^ s * nV a := by
 unfold pshift
 rw [gd_pos (okI64 (by omega) (by omega)), gd_pos (by omega), gd_pos (by trivial), gd_pos (by unfold rmB; omega)]
 refine pshift_l1_is n a s hs (by omega) a.length 0 n _ (by omega) (by omega) (by simp) (fun k _ => getD_rep0 _ _) ?_ (by simp [V_rep, V_nil])
 rw [getD_rep0]; exact Nat.pow_pos (by decide)
theorem digit_dn {q r uu v1 : Nat} (h : q * v1 + r = uu) (h2 : 0 < q) : (q - 1) * v1 + (r + v1) = uu := by
 obtain ⟨q, rfl⟩ : ∃ k, q = k + 1 := ⟨q - 1, by omega⟩
 simp only [Nat.add_sub_cancel]; grind
theorem digit_top {p N vl M ul q : Nat} (hvl : vl < p) (hN : 0 < N) (hq : q * N ≤ M) (hqN : q ≤ N) : q ≤ (M * p + ul) / (N * p + vl) + 1 := by
 cases q with
 | zero => exact Nat.zero_le _
 | succ q =>
  have hpos : 0 < N * p + vl := by have := Nat.mul_pos hN (show 0 < p by omega); omega
  have : q ≤ (M * p + ul) / (N * p + vl) := by
   rw [Nat.le_div_iff_mul_le hpos]
   have h1 : q * vl ≤ N * p := Nat.mul_le_mul (by omega) (by omega)
   have h2 := Nat.mul_le_mul_right p hq
   have h3 : (q + 1) * N * p = q * (N * p) + N * p := by grind
   have h4 : q * (N * p + vl) = q * (N * p) + q * vl := Nat.mul_add _ _ _
   omega
  omega
theorem digit_lo {p N vl M ul q : Nat} (hul : ul < p) (hq : M < q * N) : (M * p + ul) / (N * p + vl) < q := by
 have hN : 0 < N := by
  cases N with
  | zero => simp at hq
  | succ N => omega
 have hpos : 0 < N * p + vl := by have := Nat.mul_pos hN (show 0 < p by omega); omega
 rw [Nat.div_lt_iff_lt_mul hpos]
 have h1 := Nat.mul_le_mul_right p (show M + 1 ≤ q * N from hq)
 have h2 : q * (N * p + vl) = q * N * p + q * vl := by grind
 have h3 : (M + 1) * p = M * p + p := by grind
 have := Nat.zero_le (q * vl)
 omega
structure Dig (u1 u2 u3 v1 v2 Q : Nat) : Prop where
 lo : ∀ q, (u1 * 4294967296 + u2) * 4294967296 + u3 < q * (v1 * 4294967296 + v2) → Q < q
 hi : ∀ q, q ≤ 4294967297 → q * (v1 * 4294967296 + v2) ≤ (u1 * 4294967296 + u2) * 4294967296 + u3 → q ≤ Q + 1
 b : Q < 4294967296
 t : u1 ≤ v1
 v : 2147483648 ≤ v1
theorem dig_of {p u1 u2 u3 ul v1 v2 vl : Nat} (hul : ul < p) (hvl : vl < p) (hv : 2147483648 ≤ v1) (hv2 : v2 < 4294967296)
  (hW : (((u1 * 4294967296 + u2) * 4294967296 + u3) * p + ul) < 4294967296 * ((v1 * 4294967296 + v2) * p + vl)) :
  Dig u1 u2 u3 v1 v2 ((((u1 * 4294967296 + u2) * 4294967296 + u3) * p + ul) / ((v1 * 4294967296 + v2) * p + vl)) := by
 have hpos : 0 < (v1 * 4294967296 + v2) * p + vl := by have := Nat.mul_pos (show 0 < v1 * 4294967296 + v2 by omega) (show 0 < p by omega); omega
 refine ⟨fun q h => digit_lo hul h, fun q h1 h2 => digit_top hvl (by omega) h2 (by omega), ?_, ?_, hv⟩
 ·rw [Nat.div_lt_iff_lt_mul hpos]; exact hW
 ·refine Nat.le_of_not_lt fun h => ?_
  have h1 : (v1 + 1) * (4294967296 * 4294967296 * p) ≤ u1 * (4294967296 * 4294967296 * p) := Nat.mul_le_mul_right _ h
  have h2 : v2 * p + p ≤ 4294967296 * p := by
   have := Nat.mul_le_mul_right p (show v2 + 1 ≤ 4294967296 from hv2)
   rwa [Nat.add_mul, Nat.one_mul] at this
  have h3 : ((u1 * 4294967296 + u2) * 4294967296 + u3) * p + ul = u1 * (4294967296 * 4294967296 * p) + (u2 * 4294967296 * p + u3 * p + ul) := by grind
  have h4 : 4294967296 * ((v1 * 4294967296 + v2) * p + vl) = v1 * (4294967296 * 4294967296 * p) + 4294967296 * (v2 * p + vl) := by grind
  have h5 : (v1 + 1) * (4294967296 * 4294967296 * p) = v1 * (4294967296 * 4294967296 * p) + 4294967296 * 4294967296 * p := by grind
  rw [h3, h4] at hW
  rw [h5] at h1
  generalize u2 * 4294967296 * p + u3 * p + ul = x at *
  generalize u1 * (4294967296 * 4294967296 * p) = y at *
  generalize v1 * (4294967296 * 4294967296 * p) = z at *
  have h6 : 4294967296 * 4294967296 * p = 4294967296 * (4294967296 * p) := by grind
  rw [h6] at h1
  generalize v2 * p = a at *
  generalize 4294967296 * p = c at *
  omega
theorem dig_a {B r x y u3 uu : Nat} (h : x + r = uu) (ht : r * B + u3 < y) : uu * B + u3 < x * B + y := by
 subst h; rw [Nat.add_mul]; omega
theorem dig_b {B r x y u3 uu : Nat} (h : x + r = uu) (ht : ¬ r * B + u3 < y) : x * B + y ≤ uu * B + u3 := by
 subst h; rw [Nat.add_mul]; omega
theorem pdigit_l1_is (n : Nat) (u v : List UInt32) (j : Nat) (hv : 2 ≤ v.length) (hvl : v.length ≤ 100000) (hu : u.length ≤ 1000000) (hj : j + v.length < u.length) (Q : Nat)
  (hD : Dig (u.getD (j + v.length) 0).toNat (u.getD (j + v.length - 1) 0).toNat (u.getD (j + v.length - 2) 0).toNat (v.getD (v.length - 1) 0).toNat (v.getD (v.length - 2) 0).toNat Q) :
  ∀ (fu : Nat) (q r : UInt64), q.toNat < fu → Q ≤ q.toNat → q.toNat ≤ 4294967297 → q.toNat * (v.getD (v.length - 1) 0).toNat + r.toNat = (u.getD (j + v.length) 0).toNat * 4294967296 + (u.getD (j + v.length - 1) 0).toNat → r.toNat < 4294967296 →
  ∃ q' : UInt64, pdigit_l1 n u v (j : Int) fu q r = some q' ∧ Q ≤ q'.toNat ∧ q'.toNat ≤ Q + 1 ∧ q'.toNat < 4294967296 := by
 intro fu
 have h1 := u32_lt (u.getD (j + v.length) 0)
 have h2 := u32_lt (u.getD (j + v.length - 1) 0)
 have h3 := u32_lt (u.getD (j + v.length - 2) 0)
 have h4 := u32_lt (v.getD (v.length - 1) 0)
 have h5 := u32_lt (v.getD (v.length - 2) 0)
 have e1 : (((v.length : Nat) : Int) - 1).toNat = v.length - 1 := by omega
 have e2 : (((v.length : Nat) : Int) - 2).toNat = v.length - 2 := by omega
 have e3 : ((((j : Nat) : Int) + ((v.length : Nat) : Int)) - 2).toNat = j + v.length - 2 := by omega
 induction fu with
 | zero => intro q r h; omega
 | succ fu ih =>
  intro q r hf hQ hq huu hr
  have es : (shr64 q 32).toNat = q.toNat / 4294967296 := shr64_is q 32 (by decide)
  have er : (r + (v.getD (v.length - 1) 0).toUInt64).toNat = r.toNat + (v.getD (v.length - 1) 0).toNat := by rw [u64_add, u64_32]; omega
  have esr : (shr64 (r + (v.getD (v.length - 1) 0).toUInt64) 32).toNat = (r.toNat + (v.getD (v.length - 1) 0).toNat) / 4294967296 := by
   rw [← er]; exact shr64_is _ 32 (by decide)
  -- one less
  have down : Q < q.toNat → (gd (0 ≤ (32 : Int)) <|
    bif (decide ((0 : UInt64) < (shr64 (r + ((v.getD ((((v.length : Nat) : Int) - 1).toNat) 0).toUInt64)) 32))) then
     pdigit_j1 n (q - (1 : UInt64))
    else
     (pdigit_l1 n u v (j : Int) fu) (q - (1 : UInt64)) (r + ((v.getD ((((v.length : Nat) : Int) - 1).toNat) 0).toUInt64))) = (gd (0 ≤ (32 : Int)) <|
    bif (decide ((0 : UInt64) < (shr64 (r + ((v.getD ((((v.length : Nat) : Int) - 1).toNat) 0).toUInt64)) 32))) then
     pdigit_j1 n (q - (1 : UInt64))
    else
     (pdigit_l1 n u v (j : Int) fu) (q - (1 : UInt64)) (r + ((v.getD ((((v.length : Nat) : Int) - 1).toNat) 0).toUInt64))) → ∃ q' : UInt64, (gd (0 ≤ (32 : Int)) <|
    bif (decide ((0 : UInt64) < (shr64 (r + ((v.getD ((((v.length : Nat) : Int) - 1).toNat) 0).toUInt64)) 32))) then
     pdigit_j1 n (q - (1 : UInt64))
    else
     (pdigit_l1 n u v (j : Int) fu) (q - (1 : UInt64)) (r + ((v.getD ((((v.length : Nat) : Int) - 1).toNat) 0).toUInt64))) = some q' ∧ Q ≤ q'.toNat ∧ q'.toNat ≤ Q + 1 ∧ q'.toNat < 4294967296 := by
   intro hlt _
   have eq1 : (q - 1).toNat = q.toNat - 1 := by rw [u64_sub]; have := u64_lt q; show (18446744073709551616 - 1 + _) % _ = _; omega
   have hd := digit_dn huu (by omega)
   rw [gd_pos (by omega), e1]
   by_cases hb : 4294967296 ≤ r.toNat + (v.getD (v.length - 1) 0).toNat
   ·rw [ite_t (by simp only [decide_eq_true_eq, decide_eq_false_iff_not, UInt64.lt_iff_toNat_lt, esr, UInt64.toNat_zero]; omega)]
    have hqB : q.toNat - 1 < 4294967296 := by
     refine Nat.lt_of_not_le fun h => ?_
     have := Nat.mul_le_mul_right (v.getD (v.length - 1) 0).toNat h
     have := hD.t
     omega
    refine ⟨q - 1, rfl, by omega, ?_, by omega⟩
    rw [eq1]
    refine hD.hi _ (by omega) ?_
    have h6 : (q.toNat - 1) * (v.getD (v.length - 2) 0).toNat ≤ 4294967295 * 4294967295 := Nat.mul_le_mul (by omega) (by omega)
    rw [Nat.mul_add, ← Nat.mul_assoc]
    omega
   ·rw [ite_f (by simp only [decide_eq_true_eq, decide_eq_false_iff_not, UInt64.lt_iff_toNat_lt, esr, UInt64.toNat_zero]; omega)]
    exact ih (q - 1) _ (by omega) (by omega) (by omega) (by rw [eq1, er]; exact hd) (by rw [er]; omega)
  rw [pdigit_l1, gd_pos (by omega)]
  by_cases hqB : 4294967296 ≤ q.toNat
  ·rw [ite_t (by simp only [decide_eq_true_eq, decide_eq_false_iff_not, UInt64.lt_iff_toNat_lt, es, UInt64.toNat_zero]; omega)]
   exact down (by have := hD.b; omega) rfl
  ·rw [ite_f (by simp only [decide_eq_true_eq, decide_eq_false_iff_not, UInt64.lt_iff_toNat_lt, es, UInt64.toNat_zero]; omega), gd_pos (okI64 (by omega) (by omega)), gd_pos (by omega), gd_pos (by omega), gd_pos (by omega), gd_pos (okI64 (by omega) (by omega)), gd_pos (okI64 (by omega) (by omega)), gd_pos (by omega), gd_pos (by omega), e2, e3]
   have eo := shl64_or r (u.getD (j + v.length - 2) 0) hr
   have hqv : q.toNat * (v.getD (v.length - 2) 0).toNat ≤ 4294967295 * 4294967295 := Nat.mul_le_mul (by omega) (by omega)
   have em : (q * (v.getD (v.length - 2) 0).toUInt64).toNat = q.toNat * (v.getD (v.length - 2) 0).toNat := by rw [u64_mul, u64_32]; omega
   by_cases ht : r.toNat * 4294967296 + (u.getD (j + v.length - 2) 0).toNat < q.toNat * (v.getD (v.length - 2) 0).toNat
   ·rw [ite_t (by simp only [decide_eq_true_eq, UInt64.lt_iff_toNat_lt]; rw [eo, em]; exact ht)]
    refine down (hD.lo _ ?_) rfl
    rw [Nat.mul_add, ← Nat.mul_assoc]
    clear hqv em eo hD ih down
    generalize q.toNat * (v.getD (v.length - 1) 0).toNat = x at *
    generalize q.toNat * (v.getD (v.length - 2) 0).toNat = y at *
    exact dig_a huu ht
   ·rw [ite_f (by simp only [decide_eq_false_iff_not, UInt64.lt_iff_toNat_lt]; rw [eo, em]; exact ht)]
    refine ⟨q, rfl, hQ, hD.hi _ (by omega) ?_, by omega⟩
    rw [Nat.mul_add, ← Nat.mul_assoc]
    exact dig_b huu ht
theorem pdigit_is {n : Nat} (hn : 18446744073709551616 ≤ n) {u v : List UInt32} {j : Nat} (hv : 2 ≤ v.length) (hvl : v.length ≤ 100000) (hu : u.length ≤ 1000000) (hj : j + v.length < u.length) {Q : Nat}
  (hD : Dig (u.getD (j + v.length) 0).toNat (u.getD (j + v.length - 1) 0).toNat (u.getD (j + v.length - 2) 0).toNat (v.getD (v.length - 1) 0).toNat (v.getD (v.length - 2) 0).toNat Q) :
  ∃ q' : UInt64, pdigit n u v (j : Int) = some q' ∧ Q ≤ q'.toNat ∧ q'.toNat ≤ Q + 1 ∧ q'.toNat < 4294967296 := by
 have h1 := u32_lt (u.getD (j + v.length) 0)
 have h2 := u32_lt (u.getD (j + v.length - 1) 0)
 have h3 := u32_lt (u.getD (j + v.length - 2) 0)
 have h4 := u32_lt (v.getD (v.length - 1) 0)
 have h5 := u32_lt (v.getD (v.length - 2) 0)
 have e1 : (((v.length : Nat) : Int) - 1).toNat = v.length - 1 := by omega
 have e2 : ((((j : Nat) : Int) + ((v.length : Nat) : Int))).toNat = j + v.length := by omega
 have e3 : ((((j : Nat) : Int) + ((v.length : Nat) : Int)) - 1).toNat = j + v.length - 1 := by omega
 have hv1 := hD.v
 have h0 : ((v.getD (v.length - 1) 0).toUInt64) ≠ 0 := fun h => by have := congrArg UInt64.toNat h; rw [u64_32, UInt64.toNat_zero] at this; omega
 unfold pdigit
 rw [e1, e2, e3, gd_pos (okI64 (by omega) (by omega)), gd_pos (by omega), gd_pos (by omega), gd_pos (okI64 (by omega) (by omega)), gd_pos (by omega), gd_pos (by omega), gd_pos (by omega), gd_pos (okI64 (by omega) (by omega)), gd_pos (okI64 (by omega) (by omega)), gd_pos (by omega), gd_pos (by omega), gd_pos h0, gd_pos h0]
 have hx : ((u.getD (j + v.length) 0).toUInt64).toNat < 4294967296 := by rw [u64_32]; exact h1
 have es := shl64_or _ (u.getD (j + v.length - 1) 0) hx
 rw [u64_32] at es
 generalize hs : shl64 ((u.getD (j + v.length) 0).toUInt64) 32 ||| (u.getD (j + v.length - 1) 0).toUInt64 = s at *
 have ed : (s / (v.getD (v.length - 1) 0).toUInt64).toNat = s.toNat / (v.getD (v.length - 1) 0).toNat := by rw [UInt64.toNat_div, u64_32]
 have em : (s % (v.getD (v.length - 1) 0).toUInt64).toNat = s.toNat % (v.getD (v.length - 1) 0).toNat := by rw [UInt64.toNat_mod, u64_32]
 have hdm := Nat.mod_add_div s.toNat (v.getD (v.length - 1) 0).toNat
 have hml := Nat.mod_lt s.toNat (show 0 < (v.getD (v.length - 1) 0).toNat by omega)
 have hq1 : s.toNat / (v.getD (v.length - 1) 0).toNat ≤ 4294967297 := by
  refine Nat.le_of_lt_succ ?_
  rw [Nat.div_lt_iff_lt_mul (by omega)]
  have := hD.t
  omega
 refine pdigit_l1_is n u v j hv hvl hu hj Q hD n _ _ (by rw [ed]; omega) ?_ (by rw [ed]; exact hq1) (by rw [ed, em, Nat.mul_comm, Nat.add_comm]; rw [← es]; exact hdm) (by rw [em]; omega)
 rw [ed]
 refine Nat.le_of_lt_succ (hD.lo _ ?_)
 generalize s.toNat / (v.getD (v.length - 1) 0).toNat = q at *
 have h6 : s.toNat + 1 ≤ (q + 1) * (v.getD (v.length - 1) 0).toNat := by rw [Nat.add_mul, Nat.mul_comm q]; omega
 have h7 := Nat.mul_le_mul_right 4294967296 h6
 show _ < (q + 1) * _
 rw [Nat.mul_add, ← Nat.mul_assoc, ← es]
 omega
theorem ofInt32 (t : Int) : (UInt32.ofInt t).toNat = (t % 4294967296).toNat := by
 simp [UInt32.ofInt]; omega
theorem wrapI64 {x : Nat} (h : x < 9223372036854775808) : IntKind.i64.wrap (x : Int) = x := okI64 (by omega) (by omega)
theorem sub_step {u c p : Nat} (hu : u < 4294967296) (hc : c ≤ 4294967296) :
  ∃ d : Nat, d ≤ 2 ∧ (((u : Int) - (c : Int)) - ((p % 4294967296 : Nat) : Int)) / 2 ^ 32 = -(d : Int) ∧ u + d * 4294967296 = c + p % 4294967296 + (UInt32.ofInt (((u : Int) - (c : Int)) - ((p % 4294967296 : Nat) : Int))).toNat := by
 have hp : p % 4294967296 < 4294967296 := Nat.mod_lt _ (by decide)
 rw [ofInt32]
 generalize p % 4294967296 = x at *
 refine ⟨(-((((u : Int) - (c : Int)) - ((x : Nat) : Int)) / 2 ^ 32)).toNat, ?_, ?_, ?_⟩ <;> omega
structure Win (w w' : List UInt32) (j n : Nat) : Prop where
 len : w'.length = w.length
 lo : w'.take j = w.take j
 hi : w'.drop (j + n + 1) = w.drop (j + n + 1)
theorem Win.refl (w : List UInt32) (j n : Nat) : Win w w j n := ⟨rfl, rfl, rfl⟩
theorem Win.set {w w' : List UInt32} {j n : Nat} (h : Win w w' j n) {k : Nat} (x : UInt32) (h1 : j ≤ k) (h2 : k ≤ j + n) : Win w (w'.set k x) j n :=
 ⟨by rw [List.length_set]; exact h.len, by rw [List.take_set_of_le h1]; exact h.lo, by rw [List.drop_set_of_lt (by omega)]; exact h.hi⟩
theorem Win.eq {w w' : List UInt32} {j n : Nat} (h : Win w w' j n) (h0 : nV (w.drop (j + n + 1)) = 0) : nV w' = nV (w.take j) + 4294967296 ^ j * nV (w'.drop j) ∧ nV (w'.drop j) < 4294967296 ^ (n + 1) := by
 refine ⟨by rw [← h.lo]; exact V_split w' j, ?_⟩
 have h1 := V_split (w'.drop j) (n + 1)
 rw [List.drop_drop, show j + (n + 1) = j + n + 1 by omega, h.hi, h0] at h1
 have h2 := V_lt ((w'.drop j).take (n + 1))
 rw [List.length_take] at h2
 have h3 : 4294967296 ^ (min (n + 1) (w'.drop j).length) ≤ 4294967296 ^ (n + 1) := Nat.pow_le_pow_right (by decide) (by omega)
 omega
theorem pdivide_l2_is (n : Nat) (a b vf : List UInt32) (vl ul : Nat) (s : Int) (o : List UInt32) (r53 : List UInt32) (j : Nat) (q : UInt64) (K : List UInt32 → List UInt32 → Int → Option (List UInt32 × Nat × List UInt32 × Nat)) (u0 : List UInt32)
  (hbl : b.length ≤ 1000000) (hju : j + b.length < ul) (hul : ul ≤ 1000000) (h0 : u0.length = ul) (hq : q.toNat < 4294967296) (hvl : ((vf.drop 0).take b.length).length = b.length) :
  ∀ (m i fu : Nat) (w : List UInt32) (c : Nat), i + m = b.length → m < fu → Win u0 w j b.length → c ≤ 4294967296 → (∀ k, j + i ≤ k → w.getD k 0 = u0.getD k 0) →
  nV w + 4294967296 ^ j * (q.toNat * nV (((vf.drop 0).take b.length).take i)) = nV u0 + 4294967296 ^ (j + i) * c →
  ∃ (w' : List UInt32) (t : Bool), Win u0 w' j b.length ∧ nV w' + 4294967296 ^ j * (q.toNat * nV ((vf.drop 0).take b.length)) = nV u0 + (if t then 4294967296 ^ (j + b.length + 1) else 0) ∧
  pdivide_l2 n a b s (vf, vl) (r53, ul) o (j : Int) q K fu w (c : Int) (i : Int) = (bif t then pdivide_l3 n a b s (vf, vl) (r53, ul) o (j : Int) q K n w' 0 0 else pdivide_j1 n a b s (vf, vl) (r53, ul) o (j : Int) K w' q) := by
 generalize hv : ((vf.drop 0).take b.length) = v at *
 intro m
 induction m with
 | zero =>
  intro i fu w c hi hf hw hc hs hr
  cases fu with
  | zero => omega
  | succ fu =>
   have hwl := hw.len
   have e1 : ((j : Int) + ((b.length : Nat) : Int)).toNat = j + b.length := by omega
   have hU := u32_lt (w.getD (j + b.length) 0)
   rw [List.take_of_length_le (by omega), show i = b.length by omega] at hr
   rw [pdivide_l2, ite_f (by simp; omega), e1, gd_pos (okI64 (by omega) (by omega)), gd_pos (by omega), gd_pos (by show (j : Int) + _ < (ul : Int); omega), gd_pos (okI64 (by omega) (by omega)), gd_pos (okI64 (by omega) (by omega)), gd_pos (by omega), gd_pos (by show (j : Int) + _ < (ul : Int); omega)]
   have hV := V_set w (j + b.length) (UInt32.ofInt ((((w.getD (j + b.length) 0).toNat : Nat) : Int) - (c : Int))) (by omega)
   have e2 := ofInt32 ((((w.getD (j + b.length) 0).toNat : Nat) : Int) - (c : Int))
   generalize UInt32.ofInt ((((w.getD (j + b.length) 0).toNat : Nat) : Int) - (c : Int)) = x at *
   generalize (w.getD (j + b.length) 0).toNat = u at *
   by_cases ht : u < c
   ·refine ⟨w.set (j + b.length) x, true, hw.set _ (by omega) (by omega), ?_, ?_⟩
    ·have e3 : x.toNat + c = u + 4294967296 := by omega
     rw [if_pos rfl, pow1]
     generalize 4294967296 ^ (j + b.length) = p at *
     have : p * (x.toNat + c) = p * (u + 4294967296) := by rw [e3]
     grind
    ·rw [ite_t (by simp; omega)]; rfl
   ·refine ⟨w.set (j + b.length) x, false, hw.set _ (by omega) (by omega), ?_, ?_⟩
    ·have e3 : x.toNat + c = u := by omega
     rw [if_neg (by decide)]
     generalize 4294967296 ^ (j + b.length) = p at *
     have : p * (x.toNat + c) = p * u := by rw [e3]
     grind
    ·rw [ite_f (by simp; omega)]; rfl
 | succ m ih =>
  intro i fu w c hi hf hw hc hs hr
  cases fu with
  | zero => omega
  | succ fu =>
   have hwl := hw.len
   have e1 : ((i : Int) + (j : Int)).toNat = j + i := by omega
   have hU := u32_lt (w.getD (j + i) 0)
   have hX := u32_lt (v.getD i 0)
   have hqv : q.toNat * (v.getD i 0).toNat ≤ 4294967295 * 4294967295 := Nat.mul_le_mul (by omega) (by omega)
   have em : (q * (v.getD i 0).toUInt64).toNat = q.toNat * (v.getD i 0).toNat := by rw [u64_mul, u64_32]; omega
   have em2 : (q * (v.getD i 0).toUInt64).toUInt32.toNat = q.toNat * (v.getD i 0).toNat % 4294967296 := by rw [u32_64, em]
   have es : (shr64 (q * (v.getD i 0).toUInt64) 32).toNat = q.toNat * (v.getD i 0).toNat / 4294967296 := by rw [← em]; exact shr64_is _ 32 (by decide)
   rw [pdivide_l2, ite_t (by simp; omega)]
   simp only [Int.toNat_natCast, hv, e1]
   generalize hxx : q * (v.getD i 0).toUInt64 = pq at *
   obtain ⟨d, hd2, hd, hud⟩ := sub_step (u := (w.getD (j + i) 0).toNat) (c := c) (p := q.toNat * (v.getD i 0).toNat) hU hc
   rw [em2, es, hd]
   have hql : q.toNat * (v.getD i 0).toNat / 4294967296 ≤ 4294967294 := by omega
   rw [wrapI64 (by omega)]
   have e4 : (((q.toNat * (v.getD i 0).toNat / 4294967296 : Nat) : Int) - -(d : Int)) = ((q.toNat * (v.getD i 0).toNat / 4294967296 + d : Nat) : Int) := by omega
   rw [e4, gd_pos (by omega), gd_pos (by omega), gd_pos (okI64 (by omega) (by omega)), gd_pos (by omega), gd_pos (by show _ < (ul : Int); omega), gd_pos (okI64 (by omega) (by omega)), gd_pos (okI64 (by omega) (by omega)), gd_pos (okI64 (by omega) (by omega)), gd_pos (by omega), gd_pos (by omega), gd_pos (by decide), gd_pos (okI64 (by omega) (by omega)), gd_pos (by omega), gd_pos (by show _ < (ul : Int); omega), gd_pos (okI64 (by omega) (by omega))]
   have hV := V_set w (j + i) (UInt32.ofInt ((((w.getD (j + i) 0).toNat : Nat) : Int) - (c : Int) - ((q.toNat * (v.getD i 0).toNat % 4294967296 : Nat) : Int))) (by omega)
   generalize UInt32.ofInt ((((w.getD (j + i) 0).toNat : Nat) : Int) - (c : Int) - ((q.toNat * (v.getD i 0).toNat % 4294967296 : Nat) : Int)) = x at *
   have hc' : q.toNat * (v.getD i 0).toNat / 4294967296 + d ≤ 4294967296 := by omega
   refine ih (i + 1) fu (w.set (j + i) x) _ (by omega) (by omega) (hw.set _ (by omega) (by omega)) hc' ?_ ?_
   ·intro k hk
    rw [getD_set_ne _ _ (by omega)]; exact hs k (by omega)
   ·rw [V_take', show j + (i + 1) = (j + i) + 1 by omega, pow1]
    have hdm := Nat.mod_add_div (q.toNat * (v.getD i 0).toNat) 4294967296
    rw [Nat.pow_add] at *
    generalize (w.getD (j + i) 0).toNat = u at *
    generalize (v.getD i 0).toNat = y at *
    generalize q.toNat * y % 4294967296 = f at *
    generalize q.toNat * y / 4294967296 = g at *
    generalize 4294967296 ^ j = p at *
    generalize 4294967296 ^ i = r at *
    clear ih es em em2 hqv hs hd e4 hql hc' hxx
    have k1 : p * r * (u + d * 4294967296) = p * r * (c + f + x.toNat) := by rw [hud]
    grind
theorem pdivide_l3_is (n : Nat) (a b vf : List UInt32) (vl ul : Nat) (s : Int) (o : List UInt32) (r53 : List UInt32) (j : Nat) (q : UInt64) (K : List UInt32 → List UInt32 → Int → Option (List UInt32 × Nat × List UInt32 × Nat)) (u0 : List UInt32)
  (hbl : b.length ≤ 1000000) (hju : j + b.length < ul) (hul : ul ≤ 1000000) (h0 : u0.length = ul) (hvl : ((vf.drop 0).take b.length).length = b.length) :
  ∀ (m i fu : Nat) (w : List UInt32) (c : UInt64), i + m = b.length → m < fu → Win u0 w j b.length → c.toNat ≤ 1 →
  nV w + 4294967296 ^ (j + i) * c.toNat = nV u0 + 4294967296 ^ j * nV (((vf.drop 0).take b.length).take i) →
  ∃ (w' : List UInt32) (e : Nat), Win u0 w' j b.length ∧ nV w' + 4294967296 ^ (j + b.length + 1) * e = nV u0 + 4294967296 ^ j * nV ((vf.drop 0).take b.length) ∧
  pdivide_l3 n a b s (vf, vl) (r53, ul) o (j : Int) q K fu w c (i : Int) = pdivide_j1 n a b s (vf, vl) (r53, ul) o (j : Int) K w' (q - 1) := by
 generalize hv : ((vf.drop 0).take b.length) = v at *
 intro m
 induction m with
 | zero =>
  intro i fu w c hi hf hw hc hr
  cases fu with
  | zero => omega
  | succ fu =>
   have hwl := hw.len
   have e1 : ((j : Int) + ((b.length : Nat) : Int)).toNat = j + b.length := by omega
   have hU := u32_lt (w.getD (j + b.length) 0)
   rw [List.take_of_length_le (by omega), show i = b.length by omega] at hr
   have hV := V_set w (j + b.length) (w.getD (j + b.length) 0 + c.toUInt32) (by omega)
   have hx : (w.getD (j + b.length) 0 + c.toUInt32).toNat = ((w.getD (j + b.length) 0).toNat + c.toNat) % 4294967296 := by rw [UInt32.toNat_add, u32_64]; omega
   refine ⟨w.set (j + b.length) (w.getD (j + b.length) 0 + c.toUInt32), ((w.getD (j + b.length) 0).toNat + c.toNat) / 4294967296, hw.set _ (by omega) (by omega), ?_, ?_⟩
   ·rw [pow1]
    rw [hx] at hV
    have hdm := Nat.mod_add_div ((w.getD (j + b.length) 0).toNat + c.toNat) 4294967296
    generalize ((w.getD (j + b.length) 0).toNat + c.toNat) % 4294967296 = f at *
    generalize ((w.getD (j + b.length) 0).toNat + c.toNat) / 4294967296 = g at *
    generalize 4294967296 ^ (j + b.length) = p at *
    grind
   ·rw [pdivide_l3, ite_f (by simp; omega), e1, gd_pos (okI64 (by omega) (by omega)), gd_pos (by omega), gd_pos (by show (j : Int) + _ < (ul : Int); omega), gd_pos (by omega), gd_pos (by show (j : Int) + _ < (ul : Int); omega)]
 | succ m ih =>
  intro i fu w c hi hf hw hc hr
  cases fu with
  | zero => omega
  | succ fu =>
   have hwl := hw.len
   have e1 : ((i : Int) + (j : Int)).toNat = j + i := by omega
   have hU := u32_lt (w.getD (j + i) 0)
   have hX := u32_lt (v.getD i 0)
   rw [pdivide_l3, ite_t (by simp; omega)]
   simp only [Int.toNat_natCast, hv, e1]
   rw [gd_pos (okI64 (by omega) (by omega)), gd_pos (by omega), gd_pos (by show _ < (ul : Int); omega), gd_pos (by omega), gd_pos (by omega), gd_pos (okI64 (by omega) (by omega)), gd_pos (by omega), gd_pos (by omega), gd_pos (by show _ < (ul : Int); omega), gd_pos (okI64 (by omega) (by omega))]
   generalize hsx : c + ((w.getD (j + i) 0).toUInt64 + (v.getD i 0).toUInt64) = x
   have es : x.toNat = c.toNat + ((w.getD (j + i) 0).toNat + (v.getD i 0).toNat) := by rw [← hsx, u64_add, u64_add, u64_32, u64_32]; omega
   have ec : (shr64 x 32).toNat = x.toNat / 4294967296 := shr64_is x 32 (by decide)
   have hV := V_set w (j + i) x.toUInt32 (by omega)
   refine ih (i + 1) fu (w.set (j + i) x.toUInt32) _ (by omega) (by omega) (hw.set _ (by omega) (by omega)) (by rw [ec]; omega) ?_
   rw [V_take', show j + (i + 1) = (j + i) + 1 by omega, pow1, ec]
   rw [u32_64] at hV
   have hdm := Nat.mod_add_div x.toNat 4294967296
   rw [Nat.pow_add] at *
   generalize x.toNat % 4294967296 = f at *
   generalize x.toNat / 4294967296 = g at *
   generalize 4294967296 ^ j = p at *
   generalize 4294967296 ^ i = r at *
   clear ih ec hsx
   grind
theorem bpow_pos (i : Nat) : 0 < 4294967296 ^ i := Nat.pow_pos (by decide)
theorem qr_of {W V q r : Nat} (h : r + q * V = W) (hr : r < V) : q = W / V ∧ r = W % V := by
 constructor
 ·rw [← h, Nat.add_mul_div_right _ _ (by omega), Nat.div_eq_of_lt hr, Nat.zero_add]
 ·rw [← h, Nat.add_mul_mod_self_right, Nat.mod_eq_of_lt hr]
theorem top_v {v : List UInt32} (h : 2 ≤ v.length) : nV v = ((v.getD (v.length - 1) 0).toNat * 4294967296 + (v.getD (v.length - 2) 0).toNat) * 4294967296 ^ (v.length - 2) + nV (v.take (v.length - 2)) := by
 have h1 := V_split v (v.length - 2)
 have h2 := V_drop v (v.length - 2) (by omega)
 have h3 := V_drop v (v.length - 2 + 1) (by omega)
 rw [List.drop_of_length_le (l := v) (i := v.length - 2 + 1 + 1) (by omega), V_nil, show v.length - 2 + 1 = v.length - 1 by omega] at h3
 rw [show v.length - 2 + 1 = v.length - 1 by omega] at h2
 rw [h1, h2, h3]; grind
theorem top_w {w : List UInt32} {i k : Nat} (h : 2 ≤ k) (hk : i + k < w.length) (h0 : nV (w.drop (i + k + 1)) = 0) : nV (w.drop i) = (((w.getD (i + k) 0).toNat * 4294967296 + (w.getD (i + k - 1) 0).toNat) * 4294967296 + (w.getD (i + k - 2) 0).toNat) * 4294967296 ^ (k - 2) + nV ((w.drop i).take (k - 2)) := by
 have h1 := V_split (w.drop i) (k - 2)
 rw [List.drop_drop, show i + (k - 2) = i + k - 2 by omega] at h1
 have h2 := V_drop w (i + k - 2) (by omega)
 have h3 := V_drop w (i + k - 1) (by omega)
 have h4 := V_drop w (i + k) (by omega)
 rw [show i + k - 2 + 1 = i + k - 1 by omega] at h2
 rw [show i + k - 1 + 1 = i + k by omega] at h3
 rw [h0] at h4
 rw [h1, h2, h3, h4]; grind
theorem cancel_pow {p x y : Nat} (hp : 0 < p) (h : p * x = p * y) : x = y := Nat.eq_of_mul_eq_mul_left hp h
theorem div_step {n : Nat} (hn : 18446744073709551616 ≤ n) (a b vf : List UInt32) (vl ul : Nat) (s : Int) (o : List UInt32) (r53 : List UInt32) (i : Nat) (K : List UInt32 → List UInt32 → Int → Option (List UInt32 × Nat × List UInt32 × Nat)) (w : List UInt32)
  (hb2 : 2 ≤ b.length) (hbl : b.length ≤ 100000) (hju : i + b.length < ul) (hul : ul ≤ 1000000) (h0 : w.length = ul) (hvl : ((vf.drop 0).take b.length).length = b.length)
  (hn1 : 2147483648 ≤ (((vf.drop 0).take b.length).getD (b.length - 1) 0).toNat) (hw : nV (w.drop (i + 1)) < nV ((vf.drop 0).take b.length)) :
  ∃ (w' : List UInt32) (q : UInt64), w'.length = ul ∧ nV (w'.drop i) < nV ((vf.drop 0).take b.length) ∧ q.toNat < 4294967296 ∧ nV w' + 4294967296 ^ i * q.toNat * nV ((vf.drop 0).take b.length) = nV w ∧
  ((pdigit n w ((vf.drop 0).take b.length) (i : Int)).bind fun r71_2 => pdivide_l2 n a b s (vf, vl) (r53, ul) o (i : Int) r71_2 K n w 0 0) = pdivide_j1 n a b s (vf, vl) (r53, ul) o (i : Int) K w' q := by
 have L2 := pdivide_l2_is n a b vf vl ul s o r53 i
 have L3 := pdivide_l3_is n a b vf vl ul s o r53 i
 generalize hv : ((vf.drop 0).take b.length) = v at *
 have tv := top_v (v := v) (by omega)
 have lv := V_lt v
 have lvl := V_lt (v.take (v.length - 2))
 rw [List.length_take, Nat.min_eq_left (by omega)] at lvl
 have hWd := V_drop w i (by omega)
 have hwi := u32_lt (w.getD i 0)
 have hWB : nV (w.drop i) < 4294967296 * nV v := by
  have : 4294967296 * (nV (w.drop (i + 1)) + 1) ≤ 4294967296 * nV v := Nat.mul_le_mul_left _ hw
  omega
 have hz : nV (w.drop (i + b.length + 1)) = 0 := by
  have h1 := V_split (w.drop i) (b.length + 1)
  rw [List.drop_drop, show i + (b.length + 1) = i + b.length + 1 by omega, pow1] at h1
  rw [hvl] at lv
  cases Nat.eq_zero_or_pos (nV (w.drop (i + b.length + 1))) with
  | inl h => exact h
  | inr h =>
   have := Nat.mul_le_mul_left (4294967296 * 4294967296 ^ b.length) h
   omega
 have tw := top_w (w := w) (i := i) hb2 (by omega) hz
 have lul := V_lt ((w.drop i).take (b.length - 2))
 rw [List.length_take] at lul
 have lul' : nV ((w.drop i).take (b.length - 2)) < 4294967296 ^ (b.length - 2) := Nat.lt_of_lt_of_le lul (Nat.pow_le_pow_right (by decide) (by omega))
 rw [hvl] at tv lvl
 have hv2 := u32_lt (v.getD (b.length - 2) 0)
 have hD := dig_of (p := 4294967296 ^ (b.length - 2)) lul' lvl hn1 hv2 (by rw [← tw, ← tv]; exact hWB)
 rw [← tw, ← tv] at hD
 have hVpos : 0 < nV v := by omega
 obtain ⟨q, hq, hQ1, hQ2, hqB⟩ := pdigit_is hn (u := w) (v := v) (j := i) (by omega) (by omega) (by omega) (by omega) (Q := nV (w.drop i) / nV v) (by rw [hvl]; exact hD)
 rw [hq]
 simp only [Option.bind_some]
 obtain ⟨w1, t, hW1, he1, hr1⟩ := L2 q K w (by omega) hju hul h0 hqB hvl b.length 0 n w 0 (by omega) (by omega) (Win.refl _ _ _) (by decide) (fun _ _ => rfl) (by simp [V_nil])
 have hr1' : pdivide_l2 n a b s (vf, vl) (r53, ul) o (i : Int) q K n w 0 0 = _ := hr1
 rw [hr1']
 have hm := Nat.mod_add_div (nV (w.drop i)) (nV v)
 have hml := Nat.mod_lt (nV (w.drop i)) hVpos
 have hws := V_split w i
 obtain ⟨hk1, hk2⟩ := hW1.eq hz
 have hp := bpow_pos i
 cases t with
 | false =>
  have hx : nV (w1.drop i) + q.toNat * nV v = nV (w.drop i) := by
   refine cancel_pow hp ?_
   rw [if_neg (by decide)] at he1
   rw [Nat.mul_add]; omega
  have hqq : q.toNat = nV (w.drop i) / nV v := by
   refine Nat.le_antisymm ?_ hQ1
   rw [Nat.le_div_iff_mul_le hVpos]; omega
  refine ⟨w1, q, by rw [hW1.len]; exact h0, ?_, hqB, ?_, rfl⟩
  ·rw [hqq, Nat.mul_comm] at hx; omega
  ·rw [hk1, hws, ← hx]; grind
 | true =>
  have hx : nV (w1.drop i) + q.toNat * nV v = nV (w.drop i) + 4294967296 ^ (b.length + 1) := by
   refine cancel_pow hp ?_
   rw [if_pos rfl, show i + b.length + 1 = i + (b.length + 1) by omega, Nat.pow_add] at he1
   rw [Nat.mul_add, Nat.mul_add]; omega
  have hqq : q.toNat = nV (w.drop i) / nV v + 1 := by
   refine Nat.le_antisymm hQ2 ?_
   show _ < q.toNat
   rw [Nat.div_lt_iff_lt_mul hVpos]; omega
  obtain ⟨w2, e, hW2, he2, hr2⟩ := L3 q K w1 (by omega) hju hul (by rw [hW1.len]; exact h0) hvl b.length 0 n w1 0 (by omega) (by omega) (Win.refl _ _ _) (by decide) (by simp [V_nil])
  have hr2' : pdivide_l3 n a b s (vf, vl) (r53, ul) o (i : Int) q K n w1 0 0 = _ := hr2
  have hz1 : nV (w1.drop (i + b.length + 1)) = 0 := by rw [hW1.hi]; exact hz
  obtain ⟨hk3, hk4⟩ := hW2.eq hz1
  rw [hW1.lo] at hk3
  have hy : nV (w2.drop i) + 4294967296 ^ (b.length + 1) * e = nV (w1.drop i) + nV v := by
   refine cancel_pow hp ?_
   rw [show i + b.length + 1 = i + (b.length + 1) by omega, Nat.pow_add] at he2
   rw [Nat.mul_add, Nat.mul_add, ← Nat.mul_assoc]; omega
  have hq0 : 0 < q.toNat := by rw [hqq]; exact Nat.succ_pos _
  have hq1 : (q - 1).toNat = q.toNat - 1 := by rw [u64_sub]; have := u64_lt q; show (18446744073709551616 - 1 + _) % _ = _; omega
  rw [hqq, Nat.add_mul, Nat.mul_comm (_ / _)] at hx
  have hg : nV (w1.drop i) + nV v = nV (w.drop i) % nV v + 4294967296 ^ (b.length + 1) := by omega
  have he : e = 1 := by
   rw [hg] at hy
   rw [hvl] at lv
   rw [pow1] at *
   generalize 4294967296 ^ b.length = p at *
   cases e with
   | zero => omega
   | succ e =>
    cases e with
    | zero => rfl
    | succ e =>
     have : 4294967296 * p * 2 ≤ 4294967296 * p * (e + 1 + 1) := Nat.mul_le_mul_left _ (by omega)
     omega
  rw [he, Nat.mul_one] at hy
  have hr : nV (w2.drop i) = nV (w.drop i) % nV v := by omega
  refine ⟨w2, q - 1, by rw [hW2.len, hW1.len]; exact h0, by rw [hr]; exact hml, by rw [hq1]; exact Nat.lt_of_le_of_lt (Nat.sub_le _ _) hqB, ?_, by rw [ite_t rfl]; exact hr2'⟩
  rw [hk3, hws, hr, hq1, hqq, Nat.add_sub_cancel]
  generalize nV (w.drop i) % nV v = x at *
  generalize nV (w.drop i) / nV v = y at *
  generalize 4294967296 ^ i = p at *
  rw [← hm]; grind
theorem or_shl (x y : UInt32) (s : Nat) (hs : s < 32) : (shr32 x (s : Int) ||| (shl64 y.toUInt64 (32 - (s : Int))).toUInt32).toNat * 2 ^ s + x.toNat % 2 ^ s = x.toNat + 4294967296 * (y.toNat % 2 ^ s) := by
 have hX := u32_lt x
 have hp : 0 < 2 ^ s := Nat.pow_pos (by decide)
 have e0 : (32 : Int) - (s : Int) = ((32 - s : Nat) : Int) := by omega
 have e1 : (4294967296 : Nat) = 2 ^ (32 - s) * 2 ^ s := by rw [← Nat.pow_add, show 32 - s + s = 32 by omega]
 have e2 : y.toNat * 2 ^ (32 - s) % 4294967296 = (y.toNat % 2 ^ s) * 2 ^ (32 - s) := by
  rw [e1, Nat.mul_comm (2 ^ (32 - s)), Nat.mul_mod_mul_right]
 have hlt : x.toNat / 2 ^ s < 2 ^ (32 - s) := by rw [Nat.div_lt_iff_lt_mul hp, ← e1]; exact hX
 rw [UInt32.toNat_or, shr32_is _ _ hs, u32_64, e0, shr_shl _ _ (by omega), e2, Nat.or_comm, ← Nat.shiftLeft_eq (y.toNat % 2 ^ s), ← Nat.shiftLeft_add_eq_or_of_lt hlt, Nat.shiftLeft_eq]
 have hd := Nat.mod_add_div x.toNat (2 ^ s)
 generalize x.toNat % 2 ^ s = f at *
 generalize x.toNat / 2 ^ s = g at *
 generalize y.toNat % 2 ^ s = h at *
 rw [e1]
 generalize 2 ^ s = p at *
 generalize 2 ^ (32 - s) = r at *
 clear hlt e1 e2
 grind
theorem pdivide_l4_is {n : Nat} (hn : 18446744073709551616 ≤ n) (a b : List UInt32) (s : Nat) (hs : s < 32) (r53 : List UInt32) (ul : Nat) (o : List UInt32) (R : Nat) (w0 : List UInt32) (h0 : w0.length = ul) (hul : ul ≤ 1000000) (hb : b.length < ul) (ho : o.length ≤ 1000000) (hV : nV w0 = 2 ^ s * R) (hlt : nV w0 < 4294967296 ^ b.length) :
  ∀ (m i fu : Nat) (w : List UInt32), i + m = b.length → m < fu → w.length = ul → (∀ k, i ≤ k → w.getD k 0 = w0.getD k 0) → 2 ^ s * nV (w.take i) + (w0.getD 0 0).toNat % 2 ^ s = nV (w0.take i) + 4294967296 ^ i * ((w0.getD i 0).toNat % 2 ^ s) →
  pdivide_l4 n a b (s : Int) (r53, ul) o fu w (i : Int) = some (nD (nV o), (nD (nV o)).length, nD R, (nD R).length) := by
 have hp : 0 < 2 ^ s := Nat.pow_pos (by decide)
 intro m
 induction m with
 | zero =>
  intro i fu w hi hf hw hs' hr
  cases fu with
  | zero => omega
  | succ fu =>
   obtain rfl : i = b.length := by omega
   have h1 := V_split w0 b.length
   have h2 := V_drop w0 b.length (by omega)
   have hB := bpow_pos b.length
   have h3 : nV (w0.drop b.length) = 0 := by
    cases Nat.eq_zero_or_pos (nV (w0.drop b.length)) with
    | inl h => exact h
    | inr h => have := Nat.mul_le_mul_left (4294967296 ^ b.length) h; omega
   have h4 : (w0.getD b.length 0).toNat = 0 := by omega
   rw [h3, Nat.mul_zero, Nat.add_zero] at h1
   rw [h4, Nat.zero_mod, Nat.mul_zero, Nat.add_zero, ← h1, hV] at hr
   have hc := Nat.mod_lt (w0.getD 0 0).toNat hp
   have hR : nV (w.take b.length) = R := by
    have k1 : nV (w.take b.length) ≤ R := Nat.le_of_mul_le_mul_left (by omega) hp
    refine Nat.le_antisymm k1 (Nat.le_of_not_lt fun h => ?_)
    have := Nat.mul_le_mul_left (2 ^ s) (show nV (w.take b.length) + 1 ≤ R from h)
    rw [Nat.mul_add] at this
    omega
   rw [pdivide_l4, ite_f (by simp), ptrim_is hn (by omega)]
   simp only [Option.bind_some]
   rw [gd_pos (by omega), gd_pos (by show _ ≤ (ul : Int); omega), Int.toNat_natCast, List.drop_zero, ptrim_is hn (by simp; omega)]
   simp only [Option.bind_some]
   rw [hR]
   have ht := tk (a := w.take b.length) (by simp; omega)
   have hk := D_le (a := w.take b.length)
   rw [hR, List.length_take] at hk
   rw [hR, List.drop_zero, List.take_take, Nat.min_eq_left (by omega)] at ht
   have ht2 := tk ho
   rw [List.drop_zero] at ht2
   simp only [List.drop_zero, ht, ht2]
 | succ m ih =>
  intro i fu w hi hf hw hs' hr
  cases fu with
  | zero => omega
  | succ fu =>
   have e1 : ((i : Int) + 1).toNat = i + 1 := by omega
   rw [pdivide_l4, ite_t (by simp; omega), e1, Int.toNat_natCast, gd_pos (by omega), gd_pos (by show _ < (ul : Int); omega), gd_pos (by omega), gd_pos (okI64 (by omega) (by omega)), gd_pos (by omega), gd_pos (by show _ < (ul : Int); omega), gd_pos (okI64 (by omega) (by omega)), gd_pos (by omega), gd_pos (by omega), gd_pos (by show _ < (ul : Int); omega), gd_pos (okI64 (by omega) (by omega))]
   rw [hs' i (by omega), hs' (i + 1) (by omega)]
   have ho := or_shl (w0.getD i 0) (w0.getD (i + 1) 0) s hs
   generalize shr32 (w0.getD i 0) (s : Int) ||| (shl64 (w0.getD (i + 1) 0).toUInt64 (32 - (s : Int))).toUInt32 = x at *
   refine ih (i + 1) fu (w.set i x) (by omega) (by omega) (by rw [List.length_set]; exact hw) ?_ ?_
   ·intro k hk
    rw [getD_set_ne _ _ (by omega)]; exact hs' k (by omega)
   ·rw [V_take', V_take', List.take_set_of_le (Nat.le_refl _), getD_set_eq _ _ (by omega), pow1]
    clear ih hs' hV hlt hp
    generalize 4294967296 ^ i = p at *
    generalize (w0.getD (i + 1) 0).toNat % 2 ^ s = c at *
    generalize (w0.getD i 0).toNat % 2 ^ s = d at *
    have k1 : p * (x.toNat * 2 ^ s + d) = p * ((w0.getD i 0).toNat + 4294967296 * c) := by rw [ho]
    grind
theorem pdivide_l1_is {n : Nat} (hn : 18446744073709551616 ≤ n) (a b vf : List UInt32) (vl : Nat) (s : Nat) (r53 : List UInt32) (X Y : Nat) (hs : s < 32)
  (hb2 : 2 ≤ b.length) (hba : b.length ≤ a.length) (hal : a.length ≤ 100000) (hvl : ((vf.drop 0).take b.length).length = b.length)
  (hn1 : 2147483648 ≤ (((vf.drop 0).take b.length).getD (b.length - 1) 0).toNat) (hV : nV ((vf.drop 0).take b.length) = 2 ^ s * Y) :
  ∀ (j fu : Nat) (w o : List UInt32), j < fu → j ≤ a.length - b.length + 1 → w.length = a.length + 1 → o.length = a.length - b.length + 1 → (∀ k, k < j → o.getD k 0 = 0) → nV (w.drop j) < 2 ^ s * Y → nV w + nV o * (2 ^ s * Y) = 2 ^ s * X →
  pdivide_l1 n a b (s : Int) (vf, vl) (r53, a.length + 1) fu w o ((j : Int) - 1) = some (nD (X / Y), (nD (X / Y)).length, nD (X % Y), (nD (X % Y)).length) := by
 have hp : 0 < 2 ^ s := Nat.pow_pos (by decide)
 intro j
 induction j with
 | zero =>
  intro fu w o hf hj hw ho hz hl he
  cases fu with
  | zero => omega
  | succ fu =>
   rw [List.drop_zero] at hl
   have lv := V_lt ((vf.drop 0).take b.length)
   rw [hV, hvl] at lv
   have hY : 0 < Y := Nat.pos_of_ne_zero fun h => by rw [h] at hl; omega
   have hwq : nV o = X / Y ∧ nV w = 2 ^ s * (X % Y) := by
    have hx := Nat.mod_add_div X Y
    have hq := qr_of he hl
    rw [hq.1, hq.2]
    exact ⟨Nat.mul_div_mul_left _ _ hp, Nat.mul_mod_mul_left _ _ _⟩
   have := pdivide_l4_is hn a b s hs r53 (a.length + 1) o (X % Y) w hw (by omega) (by omega) (by omega) hwq.2 (by omega) b.length 0 n w (by omega) (by omega) hw (fun _ _ => rfl) (by simp [V_nil])
   rw [pdivide_l1, ite_f (by simp), ← hwq.1]
   exact this
 | succ j ih =>
  intro fu w o hf hj hw ho hz hl he
  cases fu with
  | zero => omega
  | succ fu =>
   rw [show ((j + 1 : Nat) : Int) - 1 = (j : Int) by omega, pdivide_l1, ite_t (by simp)]
   obtain ⟨w', q, h1, h2, h3, h4, h5⟩ := div_step hn a b vf vl (a.length + 1) (s : Int) o r53 j (pdivide_l1 n a b (s : Int) (vf, vl) (r53, a.length + 1) fu) w hb2 (by omega) (by omega) (by omega) hw hvl hn1 (by rw [hV]; exact hl)
   rw [hV] at h2 h4
   have ho1 := V_set o j q.toUInt32 (by omega)
   rw [hz j (by omega), u32_64, Nat.mod_eq_of_lt h3] at ho1
   simp only [UInt32.toNat_zero, Nat.mul_zero, Nat.add_zero] at ho1
   simp only [Int.toNat_natCast]
   rw [h5]
   unfold pdivide_j1
   rw [gd_pos (by omega), gd_pos (by omega), gd_pos (okI64 (by omega) (by omega)), Int.toNat_natCast]
   refine ih fu w' (o.set j q.toUInt32) (by omega) (by omega) h1 (by rw [List.length_set]; exact ho) ?_ h2 ?_
   ·intro k hk
    rw [getD_set_ne _ _ (by omega)]; exact hz k (by omega)
   ·rw [ho1, Nat.add_mul]; omega
theorem D_last {y : Nat} (hy : y ≠ 0) : (nD y).length ≠ 0 ∧ ((nD y).getD ((nD y).length - 1) 0).toNat ≠ 0 := by
 have h1 : (nD y).length ≠ 0 := fun h => by
  have := (D_len y 0).1 (by omega)
  simp at this; omega
 refine ⟨h1, fun h => ?_⟩
 have h2 := wpos h1
 rw [h, V_D] at h2
 have h3 := V_lt ((nD y).take ((nD y).length - 1))
 rw [List.length_take, Nat.min_eq_left (by omega)] at h3
 have := (D_len y ((nD y).length - 1)).2 (by omega)
 omega
theorem pdivide_D {n : Nat} (hn : 18446744073709551616 ≤ n) {x y : Nat} (hx : (nD x).length ≤ 90000) (hyl : (nD y).length ≤ 90000) (hy : y ≠ 0) :
  pdivide n (nD x) (nD y) = some (nD (x / y), (nD (x / y)).length, nD (x % y), (nD (x % y)).length) := by
 obtain ⟨hl0, hlast⟩ := D_last hy
 unfold pdivide
 rw [pCmp_D hn (by omega) (by omega)]
 simp only [Option.bind_some]
 by_cases hlt : x < y
 ·rw [ite_t (by simp [cmpN_neg, hlt]), gd_pos (by omega), Nat.div_eq_of_lt hlt, Nat.mod_eq_of_lt hlt, D_zero]; rfl
 ·have hxy := D_mono (Nat.le_of_not_lt hlt)
  rw [ite_f (by simp only [decide_eq_false_iff_not, cmpN_neg]; exact hlt)]
  by_cases h1 : (nD y).length = 1
  ·have hb : nV (nD y) = ((nD y).getD 0 0).toNat := by
    have := wpos hl0
    rw [h1] at this
    simpa [V_nil] using this
   rw [V_D] at hb
   rw [ite_t (by simp; omega), gd_pos (by omega), gd_pos (by omega), pshort_is hn (by omega) (by omega), V_D, ← hb]; rfl
  ·rw [ite_f (by simp; omega)]
   have e1 : ((((nD y).length : Nat) : Int) - 1).toNat = (nD y).length - 1 := by omega
   rw [e1, gd_pos (okI64 (by omega) (by omega)), gd_pos (by omega), gd_pos (by omega)]
   obtain ⟨s, hs, hs1, hs2, hs3⟩ := bclz32_is n _ hlast
   obtain ⟨vf, hvf, hvl, hvv⟩ := pshift_is hn (a := nD y) hs (by omega)
   obtain ⟨uf, huf, hul, huv⟩ := pshift_is hn (a := nD x) hs (by omega)
   rw [hs3]
   simp only [Option.bind_some]
   rw [hvf]
   simp only [Option.bind_some]
   rw [huf]
   simp only [Option.bind_some]
   rw [V_D] at hvv huv
   have e2 : (((((nD x).length : Nat) : Int) - (((nD y).length : Nat) : Int)) + 1).toNat = (nD x).length - (nD y).length + 1 := by omega
   rw [gd_pos (by omega), gd_pos (by omega), gd_pos (okI64 (by omega) (by omega)), gd_pos (okI64 (by omega) (by omega)), gd_pos (by omega), gd_pos (by trivial), gd_pos (by unfold rmB; omega), gd_pos (okI64 (by omega) (by omega)), e2]
   have hp : 0 < 2 ^ s := Nat.pow_pos (by decide)
   -- the divisor, moved up
   have hw := wpos hl0
   rw [V_D] at hw
   have hll := V_lt ((nD y).take ((nD y).length - 1))
   rw [List.length_take, Nat.min_eq_left (by omega)] at hll
   have hpw : 4294967296 ^ (nD y).length = 4294967296 * 4294967296 ^ ((nD y).length - 1) := by rw [← pow1]; congr 1; omega
   generalize ht : ((nD y).getD ((nD y).length - 1) 0).toNat = t at *
   have hP := bpow_pos ((nD y).length - 1)
   have hlo : 2147483648 * 4294967296 ^ ((nD y).length - 1) ≤ 2 ^ s * y := by
    have k1 := Nat.mul_le_mul_right (4294967296 ^ ((nD y).length - 1)) hs1
    have k2 : 2 ^ s * (4294967296 ^ ((nD y).length - 1) * t) ≤ 2 ^ s * y := Nat.mul_le_mul_left _ (by omega)
    have k3 : t * 2 ^ s * 4294967296 ^ ((nD y).length - 1) = 2 ^ s * (4294967296 ^ ((nD y).length - 1) * t) := by grind
    omega
   have hhi : 2 ^ s * y < 4294967296 ^ (nD y).length := by
    have k1 : y + 1 ≤ 4294967296 ^ ((nD y).length - 1) * (t + 1) := by rw [Nat.mul_add]; omega
    have k2 := Nat.mul_le_mul_left (2 ^ s) k1
    have k3 : (t + 1) * 2 ^ s ≤ 4294967296 := by
     have e5 : (4294967296 : Nat) = 2 ^ (32 - s) * 2 ^ s := by rw [← Nat.pow_add, show 32 - s + s = 32 by omega]
     rw [e5] at hs2 ⊢
     exact Nat.mul_le_mul_right _ (Nat.lt_of_mul_lt_mul_right hs2)
    have k4 := Nat.mul_le_mul_right (4294967296 ^ ((nD y).length - 1)) k3
    have k5 : 2 ^ s * (4294967296 ^ ((nD y).length - 1) * (t + 1)) = (t + 1) * 2 ^ s * 4294967296 ^ ((nD y).length - 1) := by grind
    rw [hpw]
    rw [Nat.mul_add] at k2
    omega
   have hvs := V_split vf (nD y).length
   have hvd : nV (vf.drop (nD y).length) = 0 := by
    cases Nat.eq_zero_or_pos (nV (vf.drop (nD y).length)) with
    | inl h => exact h
    | inr h => have := Nat.mul_le_mul_left (4294967296 ^ (nD y).length) h; omega
   rw [hvd, Nat.mul_zero, Nat.add_zero, hvv] at hvs
   have hvt := V_take vf ((nD y).length - 1) (by omega)
   rw [show (nD y).length - 1 + 1 = (nD y).length by omega, ← hvs] at hvt
   have hvtl := V_lt (vf.take ((nD y).length - 1))
   rw [List.length_take, Nat.min_eq_left (by omega)] at hvtl
   have hg : ((vf.take (nD y).length).getD ((nD y).length - 1) 0) = vf.getD ((nD y).length - 1) 0 := by
    rw [List.getD_eq_getElem?_getD, List.getD_eq_getElem?_getD, List.getElem?_take_of_lt (by omega)]
   have hn1 : 2147483648 ≤ (vf.getD ((nD y).length - 1) 0).toNat := by
    refine Nat.le_of_not_lt fun h => ?_
    have k1 := Nat.mul_le_mul_left (4294967296 ^ ((nD y).length - 1)) (show (vf.getD ((nD y).length - 1) 0).toNat + 1 ≤ 2147483648 from h)
    rw [Nat.mul_add] at k1
    omega
   -- the dividend's top
   have hxl := (D_len x (nD x).length).1 (Nat.le_refl _)
   have hus := V_split uf ((nD x).length - (nD y).length + 1)
   have hut : nV (uf.drop ((nD x).length - (nD y).length + 1)) < 2 ^ s * y := by
    refine Nat.lt_of_lt_of_le ?_ hlo
    refine Nat.lt_of_mul_lt_mul_left (a := 4294967296 ^ ((nD x).length - (nD y).length + 1)) ?_
    have k1 : 2 ^ s * x < 2 ^ s * 4294967296 ^ (nD x).length := Nat.mul_lt_mul_of_pos_left hxl hp
    have k2 : 2 ^ s ≤ 2 ^ 31 := Nat.pow_le_pow_right (by decide) (by omega)
    have k3 := Nat.mul_le_mul_right (4294967296 ^ (nD x).length) k2
    have k4 : 4294967296 ^ (nD x).length = 4294967296 ^ ((nD x).length - (nD y).length + 1) * 4294967296 ^ ((nD y).length - 1) := by rw [← Nat.pow_add]; congr 1; omega
    have k5 : 4294967296 ^ ((nD x).length - (nD y).length + 1) * (2147483648 * 4294967296 ^ ((nD y).length - 1)) = 2 ^ 31 * 4294967296 ^ (nD x).length := by rw [k4]; grind
    rw [k5]
    omega
   have := pdivide_l1_is hn (nD x) (nD y) vf ((nD y).length + 1) s uf x y hs (by omega) hxy (by omega) (by simp; omega) (by rw [List.drop_zero, hg]; exact hn1) (by rw [List.drop_zero, ← hvs]) ((nD x).length - (nD y).length + 1) n uf (List.replicate ((nD x).length - (nD y).length + 1) 0) (by omega) (Nat.le_refl _) hul (by simp) (fun k _ => getD_rep0 _ _) hut (by rw [huv, V_rep]; omega)
   rw [show (((nD x).length - (nD y).length + 1 : Nat) : Int) - 1 = ((nD x).length : Int) - ((nD y).length : Int) by omega] at this
   exact this
theorem D_mul_len {x y k l : Nat} (hx : (nD x).length ≤ k) (hy : (nD y).length ≤ l) : (nD (x * y)).length ≤ k + l := by
 rw [D_len, Nat.pow_add]
 have h1 := (D_len x k).1 hx
 have h2 := (D_len y l).1 hy
 exact Nat.mul_lt_mul'' h1 h2
theorem prest_D {n : Nat} (hn : 18446744073709551616 ≤ n) {x y m : Nat} (hx : (nD x).length ≤ 1000) (hy : (nD y).length ≤ 1000) (hm : (nD m).length ≤ 1000) (h0 : m ≠ 0) :
  prest n (nD x) (nD y) (nD m) = some (nD (x * y % m), (nD (x * y % m)).length) := by
 have := D_mul_len hx hy
 unfold prest
 rw [ptimes_D hn (by omega) (by omega)]
 simp only [Option.bind_some]
 rw [pdivide_D hn (by omega) (by omega) h0]; rfl
theorem D_one : nD 1 = [1] := by
 have := D_V (l := [1]) (by simp)
 rwa [show nV [1] = 1 from rfl] at this
theorem bit_mod (x a r : Nat) (h : r < 32) : x / 2 ^ a % 4294967296 / 2 ^ r % 2 = x / 2 ^ (a + r) % 2 := by
 have e : (4294967296 : Nat) = 2 ^ r * (2 * 2 ^ (31 - r)) := by rw [show 2 * 2 ^ (31 - r) = 2 ^ (32 - r) by rw [Nat.mul_comm, ← Nat.pow_succ]; congr 1; omega, ← Nat.pow_add, show r + (32 - r) = 32 by omega]
 rw [e, Nat.mod_mul_right_div_self, Nat.div_div_eq_div_mul, ← Nat.pow_add, Nat.mod_mul_right_mod]
theorem half (x j : Nat) : x / 2 ^ j = 2 * (x / 2 ^ (j + 1)) + x / 2 ^ j % 2 := by
 rw [Nat.pow_succ, ← Nat.div_div_eq_div_mul]; omega
theorem pow_step (x m k t : Nat) : ((x ^ k % m) * (x ^ k % m) % m * x) % m = x ^ (2 * k + 1) % m ∧ (x ^ k % m) * (x ^ k % m) % m = x ^ (2 * k) % m := by
 have h : (x ^ k % m) * (x ^ k % m) % m = x ^ (2 * k) % m := by rw [← Nat.mul_mod, ← Nat.pow_add, Nat.two_mul]
 refine ⟨?_, h⟩
 rw [h, Nat.mod_mul_mod, Nat.pow_succ]
theorem and1_32 (x : UInt32) : ((x &&& (1 : UInt32)) == 1) = decide (x.toNat % 2 = 1) := by
 have e : (x &&& (1 : UInt32)).toNat = x.toNat % 2 := by
  rw [UInt32.toNat_and]; exact Nat.and_one_is_mod _
 rw [Bool.eq_iff_iff]
 simp only [beq_iff_eq, decide_eq_true_eq, ← UInt32.toNat_inj, e]
 exact Iff.rfl
theorem pExp_l1_is {n : Nat} (hn : 18446744073709551616 ≤ n) (x e m : Nat) (b1 b2 : Bool) (w2 : List UInt32) (l2 : Nat) (hx : (nD x).length ≤ 64) (he : (nD e).length ≤ 64) (hm : (nD m).length ≤ 64) (h0 : m ≠ 0) :
  ∀ (j fu : Nat) (l : Nat), j < fu → j ≤ 32 * (nD e).length →
  pExp_l1 n (nD x, (nD x).length, nD e, (nD e).length, b1) (nD m, (nD m).length, w2, l2, b2) fu (nD (x ^ (e / 2 ^ j) % m)) l ((j : Int) - 1) = some (nD (x ^ e % m), none) := by
 intro j
 induction j with
 | zero =>
  intro fu l hf hj
  cases fu with
  | zero => omega
  | succ fu =>
   have := D_mono (Nat.le_of_lt (Nat.mod_lt (x ^ (e / 2 ^ 0)) (show m > 0 by omega)))
   rw [pExp_l1, ite_f (by simp), gd_pos (by omega)]; simp
 | succ j ih =>
  intro fu l hf hj
  cases fu with
  | zero => omega
  | succ fu =>
   have hml := fun y => D_mono (Nat.le_of_lt (Nat.mod_lt y (show m > 0 by omega)))
   have t1 : Int.tdiv (j : Int) 32 = ((j / 32 : Nat) : Int) := by rw [Int.tdiv_eq_ediv_of_nonneg (by omega)]; omega
   have t2 : Int.tmod (j : Int) 32 = ((j % 32 : Nat) : Int) := by rw [Int.tmod_eq_emod_of_nonneg (by omega)]; omega
   obtain ⟨p1, p2⟩ := pow_step x m (e / 2 ^ (j + 1)) 0
   rw [show ((j + 1 : Nat) : Int) - 1 = (j : Int) by omega, pExp_l1, ite_t (by simp), prest_D hn (by have := hml (x ^ (e / 2 ^ (j + 1))); omega) (by have := hml (x ^ (e / 2 ^ (j + 1))); omega) (by omega) h0]
   simp only [Option.bind_some]
   rw [t1, t2, gd_pos (by decide), gd_pos (okI64 (by omega) (by omega)), gd_pos (by omega), gd_pos (by omega), gd_pos (by decide), gd_pos (by omega), and1_32, shr32_is _ _ (by omega), Int.toNat_natCast, D_get]
   have hb : e / 4294967296 ^ (j / 32) % 4294967296 / 2 ^ (j % 32) % 2 = e / 2 ^ j % 2 := by
    rw [show (4294967296 : Nat) ^ (j / 32) = 2 ^ (32 * (j / 32)) by rw [Nat.pow_mul], bit_mod _ _ _ (by omega), show 32 * (j / 32) + j % 32 = j by omega]
   rw [hb, p2]
   have hh := half e j
   by_cases hbit : e / 2 ^ j % 2 = 1
   ·rw [ite_t (by simp [hbit]), prest_D hn (by have := hml (x ^ (2 * (e / 2 ^ (j + 1)))); omega) (by omega) (by omega) h0]
    simp only [Option.bind_some]
    unfold pExp_j1
    rw [gd_pos (okI64 (by omega) (by omega)), ← p2, p1, show 2 * (e / 2 ^ (j + 1)) + 1 = e / 2 ^ j by omega]
    exact ih fu _ (by omega) (by omega)
   ·rw [ite_f (by simp [hbit])]
    unfold pExp_j1
    rw [gd_pos (okI64 (by omega) (by omega)), show 2 * (e / 2 ^ (j + 1)) = e / 2 ^ j by omega]
    exact ih fu _ (by omega) (by omega)
theorem pExp_is {n : Nat} (hn : 18446744073709551616 ≤ n) {a e m : List UInt32} (ha : a.length ≤ 1000000) (he : e.length ≤ 1000000) (hm : m.length ≤ 1000000) :
  pExp n a e m = if (nD (nV a)).length ≤ 64 ∧ (nD (nV e)).length ≤ 64 ∧ (nD (nV m)).length ≤ 64 then (if nV m = 0 then some ([], some 1) else some (nD (nV a ^ nV e % nV m), none)) else some ([], some 4) := by
 unfold pExp
 rw [pmay_is hn ha he, pmay_is hn hm (by simp)]
 simp only [Option.bind_some]
 by_cases h : (nD (nV a)).length ≤ 64 ∧ (nD (nV e)).length ≤ 64
 ·rw [ite_f (by simp [h])]
  by_cases h2 : (nD (nV m)).length ≤ 64
  ·rw [if_pos ⟨h.1, h.2, h2⟩, ite_f (by simp [h2, V_nil, D_zero])]
   by_cases h0 : nV m = 0
   ·rw [if_pos h0, ite_t (by rw [h0, D_zero]; rfl)]
   ·rw [if_neg h0, ite_f (by have := (D_last h0).1; simp; intro h; rw [h] at this; exact this rfl)]
    have hd := pdivide_D hn (x := 1) (y := nV m) (by rw [D_one]; decide) (by omega) h0
    rw [D_one] at hd
    rw [hd]
    simp only [Option.bind_some]
    rw [gd_pos (okI64 (by omega) (by omega)), gd_pos (okI64 (by omega) (by omega))]
    have := pExp_l1_is hn (nV a) (nV e) (nV m) (decide ((nD (nV a)).length ≤ 64 ∧ (nD (nV e)).length ≤ 64)) (decide ((nD (nV m)).length ≤ 64 ∧ (nD (nV [])).length ≤ 64)) (nD (nV [])) (nD (nV [])).length h.1 h.2 h2 h0 (32 * (nD (nV e)).length) n (nD (1 % nV m)).length (by omega) (Nat.le_refl _)
    have hz : nV e / 2 ^ (32 * (nD (nV e)).length) = 0 := by
     rw [Nat.div_eq_of_lt]
     have := (D_len (nV e) (nD (nV e)).length).1 (Nat.le_refl _)
     rw [Nat.pow_mul]; exact this
    rw [hz, Nat.pow_zero, Int.natCast_mul] at this
    exact this
  ·rw [if_neg (fun h' => h2 h'.2.2), ite_t (by simp [h2])]
 ·rw [if_neg (fun h' => h ⟨h'.1, h'.2.1⟩), ite_t (by rw [decide_eq_false h]; rfl)]
end Go.Sx
end
section
namespace Go.Proofs.YthichmclbiggmaaDoor
open Go.RowKit Go.Ch Go.Sx
def tabL_dd : List (TypeId × Ti) := [(3, ⟨.int .i64, 1, 8, true, some [.int .i64]⟩),
 (5, ⟨.int .u8, 1, 1, true, some [.int .u8]⟩),
 (23, ⟨.sl 55, 1, 24, false, some [.nils]⟩),
 (26, ⟨.sl 5, 1, 24, false, some [.nils]⟩),
 (49, ⟨.sl 3, 1, 24, false, some [.nils]⟩),
 (55, ⟨.int .u32, 1, 4, true, some [.int .u32]⟩)]
def tab_dd : Tab := fun t => (tabL_dd).lookup t
theorem tabE_dd : (tabL_dd.map fun p => tiOf Tryd.prog p.1) = tabL_dd.map fun p => some p.2 := by kernel_rfl
theorem tabO_dd : TabOk Tryd.prog tab_dd := tab_of tabE_dd
def rtrim_l1 (n : Nat) (a0 : List Int) : Nat → Int → Option (List Int × Nat)
 | 0, _ => none
 | fu_l1 + 1, i3_2 =>
 bif (decide ((0 : Int) < i3_2)) then
 gd (okI .i64 (i3_2 - 1)) <|
 gd (0 ≤ (i3_2 - 1)) <|
 gd ((i3_2 - 1) < ((a0.length : Nat) : Int)) <|
 bif ((a0.getD ((i3_2 - 1).toNat) 0) == 0) then
 gd (okI .i64 (i3_2 - 1)) <|
 (rtrim_l1 n a0 fu_l1) (i3_2 - 1)
 else
 gd (0 ≤ i3_2) <|
 gd (i3_2 ≤ ((a0.length : Nat) : Int)) <|
 some (a0, i3_2.toNat)
 else
 gd (0 ≤ i3_2) <|
 gd (i3_2 ≤ ((a0.length : Nat) : Int)) <|
 some (a0, i3_2.toNat)
def rtrim (n : Nat) (a0 : List Int) : Option (List Int × Nat) :=
 rtrim_l1 n a0 n ((a0.length : Nat) : Int)
def rOf_l1 (n : Nat) (a0 : List UInt32) : Nat → List Int → Int → Option (List Int × Nat)
 | 0, _, _ => none
 | fu_l1 + 1, z3_2, i4_2 =>
  bif (decide (i4_2 < ((a0.length : Nat) : Int))) then
   gd (0 ≤ i4_2) <|
   gd (i4_2 < ((a0.length : Nat) : Int)) <|
   gd ((65536 : UInt32) ≠ 0) <|
   gd (0 ≤ i4_2) <|
   gd (i4_2 < ((a0.length : Nat) : Int)) <|
   gd ((65536 : UInt32) ≠ 0) <|
   gd (rmB (z3_2.length + 2) 8) <|
   gd (okI .i64 (i4_2 + 1)) <|
   (rOf_l1 n a0 fu_l1) (z3_2 ++ [((((a0.getD i4_2.toNat 0) % (65536 : UInt32)).toNat : Nat) : Int), ((((a0.getD i4_2.toNat 0) / (65536 : UInt32)).toNat : Nat) : Int)]) (i4_2 + 1)
  else
   (rtrim n z3_2).bind fun r27_2 =>
   some (((z3_2.drop 0).take r27_2.2), r27_2.2)
def rOf (n : Nat) (a0 : List UInt32) : Option (List Int × Nat) :=
 rOf_l1 n a0 n [] 0
def rCmp_l1 (n : Nat) (a0 : List Int) (a1 : List Int) : Nat → Int → Option (Int)
 | 0, _ => none
 | fu_l1 + 1, i5_2 =>
 bif (decide ((0 : Int) ≤ i5_2)) then
 gd (0 ≤ i5_2) <|
 gd (i5_2 < ((a0.length : Nat) : Int)) <|
 gd (0 ≤ i5_2) <|
 gd (i5_2 < ((a1.length : Nat) : Int)) <|
 bif ((a0.getD i5_2.toNat 0) != (a1.getD i5_2.toNat 0)) then
 gd (0 ≤ i5_2) <|
 gd (i5_2 < ((a0.length : Nat) : Int)) <|
 gd (0 ≤ i5_2) <|
 gd (i5_2 < ((a1.length : Nat) : Int)) <|
 bif (decide ((a0.getD i5_2.toNat 0) < (a1.getD i5_2.toNat 0))) then
 some (-1)
 else
 some 1
 else
 gd (okI .i64 (i5_2 - 1)) <|
 (rCmp_l1 n a0 a1 fu_l1) (i5_2 - 1)
 else
 some 0
def rCmp (n : Nat) (a0 : List Int) (a1 : List Int) : Option (Int) :=
 bif (((a0.length : Nat) : Int) != ((a1.length : Nat) : Int)) then
 bif (decide (((a0.length : Nat) : Int) < ((a1.length : Nat) : Int))) then
 some (-1)
 else
 some 1
 else
 gd (okI .i64 (((a0.length : Nat) : Int) - 1)) <|
 rCmp_l1 n a0 a1 n (((a0.length : Nat) : Int) - 1)
def rSize_j1 (n : Nat) (i3_2 : Int) : Option (Int) :=
 some i3_2
def rSize (n : Nat) (a0 : List Int) : Option (Int) :=
 gd (okI .i64 (2 * ((a0.length : Nat) : Int))) <|
 bif (decide ((0 : Int) < (2 * ((a0.length : Nat) : Int)))) then
 gd (okI .i64 (((a0.length : Nat) : Int) - 1)) <|
 gd (0 ≤ (((a0.length : Nat) : Int) - 1)) <|
 gd ((((a0.length : Nat) : Int) - 1) < ((a0.length : Nat) : Int)) <|
 bif (decide ((a0.getD ((((a0.length : Nat) : Int) - 1).toNat) 0) < (256 : Int))) then
 gd (okI .i64 ((2 * ((a0.length : Nat) : Int)) - 1)) <|
 rSize_j1 n ((2 * ((a0.length : Nat) : Int)) - 1)
 else
 rSize_j1 n (2 * ((a0.length : Nat) : Int))
 else
 rSize_j1 n (2 * ((a0.length : Nat) : Int))
def rdigit (n : Nat) (a0 : List Int) (a1 : Int) : Option (Int) :=
 bif (decide (a1 < ((a0.length : Nat) : Int))) then
 gd (0 ≤ a1) <|
 gd (a1 < ((a0.length : Nat) : Int)) <|
 some (a0.getD a1.toNat 0)
 else
 some 0
def rfit_j1 (n : Nat) (i6_2 : Int) : Option (Int) :=
 bif (i6_2 == 0) then
 some 1
 else
 some i6_2
def rfit (n : Nat) (a0 : List Int) (a1 : List Int) : Option (Int) :=
 bif (((a1.length : Nat) : Int) == 1) then
  (rdigit n a0 1).bind fun r12 =>
  gd (okI .i64 (r12 * 65536)) <|
  (rdigit n a0 0).bind fun r15 =>
  gd (okI .i64 ((r12 * 65536) + r15)) <|
  gd (0 ≤ (0 : Int)) <|
  gd ((0 : Int) < ((a1.length : Nat) : Int)) <|
  gd ((a1.getD 0 0) ≠ 0) <|
  gd (okI .i64 (Int.tdiv ((r12 * 65536) + r15) (a1.getD 0 0))) <|
  rfit_j1 n (Int.tdiv ((r12 * 65536) + r15) (a1.getD 0 0))
 else
  (rdigit n a0 ((a1.length : Nat) : Int)).bind fun r23 =>
  gd (okI .i64 (r23 * 65536)) <|
  gd (okI .i64 (((a1.length : Nat) : Int) - 1)) <|
  (rdigit n a0 (((a1.length : Nat) : Int) - 1)).bind fun r28 =>
  gd (okI .i64 ((r23 * 65536) + r28)) <|
  gd (okI .i64 (((r23 * 65536) + r28) * 65536)) <|
  gd (okI .i64 (((a1.length : Nat) : Int) - 2)) <|
  (rdigit n a0 (((a1.length : Nat) : Int) - 2)).bind fun r34 =>
  gd (okI .i64 ((((r23 * 65536) + r28) * 65536) + r34)) <|
  gd (okI .i64 (((a1.length : Nat) : Int) - 1)) <|
  gd (0 ≤ (((a1.length : Nat) : Int) - 1)) <|
  gd ((((a1.length : Nat) : Int) - 1) < ((a1.length : Nat) : Int)) <|
  gd (okI .i64 ((a1.getD ((((a1.length : Nat) : Int) - 1).toNat) 0) * 65536)) <|
  gd (okI .i64 (((a1.length : Nat) : Int) - 2)) <|
  gd (0 ≤ (((a1.length : Nat) : Int) - 2)) <|
  gd ((((a1.length : Nat) : Int) - 2) < ((a1.length : Nat) : Int)) <|
  gd (okI .i64 (((a1.getD ((((a1.length : Nat) : Int) - 1).toNat) 0) * 65536) + (a1.getD ((((a1.length : Nat) : Int) - 2).toNat) 0))) <|
  gd (okI .i64 ((((a1.getD ((((a1.length : Nat) : Int) - 1).toNat) 0) * 65536) + (a1.getD ((((a1.length : Nat) : Int) - 2).toNat) 0)) + 1)) <|
  gd (((((a1.getD ((((a1.length : Nat) : Int) - 1).toNat) 0) * 65536) + (a1.getD ((((a1.length : Nat) : Int) - 2).toNat) 0)) + 1) ≠ 0) <|
  gd (okI .i64 (Int.tdiv ((((r23 * 65536) + r28) * 65536) + r34) ((((a1.getD ((((a1.length : Nat) : Int) - 1).toNat) 0) * 65536) + (a1.getD ((((a1.length : Nat) : Int) - 2).toNat) 0)) + 1))) <|
  rfit_j1 n (Int.tdiv ((((r23 * 65536) + r28) * 65536) + r34) ((((a1.getD ((((a1.length : Nat) : Int) - 1).toNat) 0) * 65536) + (a1.getD ((((a1.length : Nat) : Int) - 2).toNat) 0)) + 1))
def rMul_l2 (n : Nat) (a0 : List Int) (a1 : List Int) (i6_2 : Int) (k_l1 : (List Int) → Int → Option (List Int × Nat)) : Nat → List Int → Int → Int → Option (List Int × Nat)
 | 0, _, _, _ => none
 | fu_l2 + 1, z5_11, i7_8, i8_8 =>
 bif (decide (i8_8 < ((a1.length : Nat) : Int))) then
 gd (0 ≤ i6_2) <|
 gd (i6_2 < ((a0.length : Nat) : Int)) <|
 gd (0 ≤ i8_8) <|
 gd (i8_8 < ((a1.length : Nat) : Int)) <|
 gd (okI .i64 ((a0.getD i6_2.toNat 0) * (a1.getD i8_8.toNat 0))) <|
 gd (okI .i64 (i7_8 + ((a0.getD i6_2.toNat 0) * (a1.getD i8_8.toNat 0)))) <|
 gd (okI .i64 (i6_2 + i8_8)) <|
 gd (0 ≤ (i6_2 + i8_8)) <|
 gd ((i6_2 + i8_8) < (((((a0.length : Nat) : Int) + ((a1.length : Nat) : Int)).toNat : Nat) : Int)) <|
 gd (okI .i64 ((i7_8 + ((a0.getD i6_2.toNat 0) * (a1.getD i8_8.toNat 0))) + (z5_11.getD ((i6_2 + i8_8).toNat) 0))) <|
 gd (okI .i64 (i6_2 + i8_8)) <|
 gd ((65536 : Int) ≠ 0) <|
 gd (0 ≤ (i6_2 + i8_8)) <|
 gd ((i6_2 + i8_8) < (((((a0.length : Nat) : Int) + ((a1.length : Nat) : Int)).toNat : Nat) : Int)) <|
 gd ((65536 : Int) ≠ 0) <|
 gd (okI .i64 (Int.tdiv ((i7_8 + ((a0.getD i6_2.toNat 0) * (a1.getD i8_8.toNat 0))) + (z5_11.getD ((i6_2 + i8_8).toNat) 0)) 65536)) <|
 gd (okI .i64 (i8_8 + 1)) <|
 (rMul_l2 n a0 a1 i6_2 k_l1 fu_l2) (z5_11.set ((i6_2 + i8_8).toNat) (Int.tmod ((i7_8 + ((a0.getD i6_2.toNat 0) * (a1.getD i8_8.toNat 0))) + (z5_11.getD ((i6_2 + i8_8).toNat) 0)) 65536)) (Int.tdiv ((i7_8 + ((a0.getD i6_2.toNat 0) * (a1.getD i8_8.toNat 0))) + (z5_11.getD ((i6_2 + i8_8).toNat) 0)) 65536) (i8_8 + 1)
 else
 gd (okI .i64 (i6_2 + ((a1.length : Nat) : Int))) <|
 gd (0 ≤ (i6_2 + ((a1.length : Nat) : Int))) <|
 gd ((i6_2 + ((a1.length : Nat) : Int)) < (((((a0.length : Nat) : Int) + ((a1.length : Nat) : Int)).toNat : Nat) : Int)) <|
 gd (okI .i64 (i6_2 + 1)) <|
 k_l1 (z5_11.set ((i6_2 + ((a1.length : Nat) : Int)).toNat) i7_8) (i6_2 + 1)
def rMul_l1 (n : Nat) (a0 : List Int) (a1 : List Int) : Nat → List Int → Int → Option (List Int × Nat)
 | 0, _, _ => none
 | fu_l1 + 1, z5_9, i6_2 =>
  bif (decide (i6_2 < ((a0.length : Nat) : Int))) then
   rMul_l2 n a0 a1 i6_2 (rMul_l1 n a0 a1 fu_l1) n z5_9 0 0
  else
   (rtrim n z5_9).bind fun r62_2 =>
   some (((z5_9.drop 0).take r62_2.2), r62_2.2)
def rMul (n : Nat) (a0 : List Int) (a1 : List Int) : Option (List Int × Nat) :=
 gd (okI .i64 (((a0.length : Nat) : Int) + ((a1.length : Nat) : Int))) <|
 gd (0 ≤ (((a0.length : Nat) : Int) + ((a1.length : Nat) : Int))) <|
 gd ((((a0.length : Nat) : Int) + ((a1.length : Nat) : Int)) = (((a0.length : Nat) : Int) + ((a1.length : Nat) : Int))) <|
 gd (rmB ((((a0.length : Nat) : Int) + ((a1.length : Nat) : Int)).toNat) 8) <|
 rMul_l1 n a0 a1 n (List.replicate ((((a0.length : Nat) : Int) + ((a1.length : Nat) : Int)).toNat) 0) 0
def rSub_j1 (n : Nat) (a0 : List Int) (a1 : List Int) (z5_2 : List Int) (i7_2 : Int) (k_l1 : (List Int) → Int → Int → Option (List Int × Nat)) (i6_11 : Int) (i8_8 : Int) : Option (List Int × Nat) :=
 gd (rmB (z5_2.length + 1) 8) <|
 gd (okI .i64 (i7_2 + 1)) <|
 k_l1 (z5_2 ++ [i8_8]) i6_11 (i7_2 + 1)
def rSub_l1 (n : Nat) (a0 : List Int) (a1 : List Int) : Nat → List Int → Int → Int → Option (List Int × Nat)
 | 0, _, _, _ => none
 | fu_l1 + 1, z5_2, i6_9, i7_2 =>
  bif (decide (i7_2 < ((a0.length : Nat) : Int))) then
   gd (0 ≤ i7_2) <|
   gd (i7_2 < ((a0.length : Nat) : Int)) <|
   (rdigit n a1 i7_2).bind fun r21_3 =>
   gd (okI .i64 ((a0.getD i7_2.toNat 0) - r21_3)) <|
   gd (okI .i64 (((a0.getD i7_2.toNat 0) - r21_3) - i6_9)) <|
   bif (decide ((((a0.getD i7_2.toNat 0) - r21_3) - i6_9) < (0 : Int))) then
    gd (okI .i64 ((((a0.getD i7_2.toNat 0) - r21_3) - i6_9) + 65536)) <|
    rSub_j1 n a0 a1 z5_2 i7_2 (rSub_l1 n a0 a1 fu_l1) 1 ((((a0.getD i7_2.toNat 0) - r21_3) - i6_9) + 65536)
   else
    rSub_j1 n a0 a1 z5_2 i7_2 (rSub_l1 n a0 a1 fu_l1) 0 (((a0.getD i7_2.toNat 0) - r21_3) - i6_9)
  else
   (rtrim n z5_2).bind fun r34_2 =>
   some (((z5_2.drop 0).take r34_2.2), r34_2.2)
def rSub (n : Nat) (a0 : List Int) (a1 : List Int) : Option (List Int × Nat) :=
 rSub_l1 n a0 a1 n [] 0 0
def rDiv_l2 (n : Nat) (a0 : List Int) (a1 : List Int) (i8_1 : Int) (k_l1 : (List Int) → (List Int) → Nat → Int → Option (List Int × Nat × List Int × Nat)) : Nat → List Int → List Int → Nat → Option (List Int × Nat × List Int × Nat)
 | 0, _, _, _ => none
 | fu_l2 + 1, z6_7, z7_7, m7_7 =>
  (rCmp n z7_7 a1).bind fun r30_8 =>
  bif (decide ((0 : Int) ≤ r30_8)) then
   (rfit n z7_7 a1).bind fun r34_8 =>
   gd (0 ≤ i8_1) <|
   gd (i8_1 < ((((a0.length : Nat) : Int).toNat : Nat) : Int)) <|
   gd (okI .i64 ((z6_7.getD i8_1.toNat 0) + r34_8)) <|
   gd (0 ≤ i8_1) <|
   gd (i8_1 < ((((a0.length : Nat) : Int).toNat : Nat) : Int)) <|
   (rMul n a1 [r34_8]).bind fun r48_8 =>
   (rSub n z7_7 r48_8.1).bind fun r49_8 =>
   (rDiv_l2 n a0 a1 i8_1 k_l1 fu_l2) (z6_7.set i8_1.toNat ((z6_7.getD i8_1.toNat 0) + r34_8)) r49_8.1 r49_8.2
  else
   gd (okI .i64 (i8_1 - 1)) <|
   k_l1 z6_7 z7_7 m7_7 (i8_1 - 1)
def rDiv_l1 (n : Nat) (a0 : List Int) (a1 : List Int) : Nat → List Int → List Int → Nat → Int → Option (List Int × Nat × List Int × Nat)
 | 0, _, _, _, _ => none
 | fu_l1 + 1, z6_5, z7_5, m7_5, i8_1 =>
  bif (decide ((0 : Int) ≤ i8_1)) then
   gd (0 ≤ i8_1) <|
   gd (i8_1 < ((a0.length : Nat) : Int)) <|
   gd (rmB (1 + m7_5) 8) <|
   (rtrim n ([(a0.getD i8_1.toNat 0)] ++ z7_5)).bind fun r27_2 =>
   rDiv_l2 n a0 a1 i8_1 (rDiv_l1 n a0 a1 fu_l1) n z6_5 ((([(a0.getD i8_1.toNat 0)] ++ z7_5).drop 0).take r27_2.2) r27_2.2
  else
   (rtrim n z6_5).bind fun r51_1 =>
   some (((z6_5.drop 0).take r51_1.2), r51_1.2, z7_5, m7_5)
def rDiv (n : Nat) (a0 : List Int) (a1 : List Int) : Option (List Int × Nat × List Int × Nat) :=
 gd (0 ≤ ((a0.length : Nat) : Int)) <|
 gd (((a0.length : Nat) : Int) = ((a0.length : Nat) : Int)) <|
 gd (rmB (((a0.length : Nat) : Int).toNat) 8) <|
 gd (okI .i64 (((a0.length : Nat) : Int) - 1)) <|
 rDiv_l1 n a0 a1 n (List.replicate (((a0.length : Nat) : Int).toNat) 0) [] 0 (((a0.length : Nat) : Int) - 1)
def rRest (n : Nat) (a0 : List Int) (a1 : List Int) : Option (List Int × Nat) :=
 (rDiv n a0 a1).bind fun r10 =>
 some (r10.2.2.1, r10.2.2.2)
def rExp_j1 (n : Nat) (a1 : List Int) (a2 : List Int) (r15 : List Int × Nat) (i9_2 : Int) (k_l1 : (List Int) → Nat → Int → Option (List Int × Nat)) (z7_11 : List Int) (m7_11 : Nat) : Option (List Int × Nat) :=
 gd (okI .i64 (i9_2 - 1)) <|
 k_l1 z7_11 m7_11 (i9_2 - 1)
def rExp_l1 (n : Nat) (a1 : List Int) (a2 : List Int) (r15 : List Int × Nat) : Nat → List Int → Nat → Int → Option (List Int × Nat)
 | 0, _, _, _ => none
 | fu_l1 + 1, z7_9, m7_9, i9_2 =>
  bif (decide ((0 : Int) ≤ i9_2)) then
   (rMul n z7_9 z7_9).bind fun r26_3 =>
   (rRest n r26_3.1 a2).bind fun r28_3 =>
   gd ((16 : Int) ≠ 0) <|
   gd (okI .i64 (Int.tdiv i9_2 16)) <|
   gd (0 ≤ (Int.tdiv i9_2 16)) <|
   gd ((Int.tdiv i9_2 16) < ((a1.length : Nat) : Int)) <|
   gd ((16 : Int) ≠ 0) <|
   gd (0 ≤ (Int.tmod i9_2 16)) <|
   gd ((Int.tmod i9_2 16) ≤ (((IntKind.i64).bits : Nat) : Int)) <|
   bif ((bitI .and .i64 ((a1.getD ((Int.tdiv i9_2 16).toNat) 0) / 2 ^ ((Int.tmod i9_2 16).toNat)) 1) == 1) then
    (rMul n r28_3.1 r15.1).bind fun r41_3 =>
    (rRest n r41_3.1 a2).bind fun r43_3 =>
    rExp_j1 n a1 a2 r15 i9_2 (rExp_l1 n a1 a2 r15 fu_l1) r43_3.1 r43_3.2
   else
    rExp_j1 n a1 a2 r15 i9_2 (rExp_l1 n a1 a2 r15 fu_l1) r28_3.1 r28_3.2
  else
   some (z7_9, m7_9)
def rExp (n : Nat) (a0 : List Int) (a1 : List Int) (a2 : List Int) : Option (List Int × Nat) :=
 (rRest n [1] a2).bind fun r12 =>
 (rRest n a0 a2).bind fun r15 =>
 gd (okI .i64 (16 * ((a1.length : Nat) : Int))) <|
 gd (okI .i64 ((16 * ((a1.length : Nat) : Int)) - 1)) <|
 rExp_l1 n a1 a2 r15 n r12.1 r12.2 ((16 * ((a1.length : Nat) : Int)) - 1)
def rBytes_j1 (n : Nat) (a0 : List UInt8) (z3_2 : List Int) (i4_2 : Int) (k_l1 : (List Int) → Int → Option (List Int × Nat)) (i5_8 : Int) : Option (List Int × Nat) :=
 gd (rmB (z3_2.length + 1) 8) <|
 gd (okI .i64 (i4_2 - 2)) <|
 k_l1 (z3_2 ++ [i5_8]) (i4_2 - 2)
def rBytes_l1 (n : Nat) (a0 : List UInt8) : Nat → List Int → Int → Option (List Int × Nat)
 | 0, _, _ => none
 | fu_l1 + 1, z3_2, i4_2 =>
  bif (decide ((0 : Int) ≤ i4_2)) then
   gd (0 ≤ i4_2) <|
   gd (i4_2 < ((a0.length : Nat) : Int)) <|
   bif (decide ((0 : Int) < i4_2)) then
    gd (okI .i64 (i4_2 - 1)) <|
    gd (0 ≤ (i4_2 - 1)) <|
    gd ((i4_2 - 1) < ((a0.length : Nat) : Int)) <|
    gd (okI .i64 ((((a0.getD ((i4_2 - 1).toNat) 0).toNat : Nat) : Int) * 256)) <|
    gd (okI .i64 ((((a0.getD i4_2.toNat 0).toNat : Nat) : Int) + ((((a0.getD ((i4_2 - 1).toNat) 0).toNat : Nat) : Int) * 256))) <|
    rBytes_j1 n a0 z3_2 i4_2 (rBytes_l1 n a0 fu_l1) ((((a0.getD i4_2.toNat 0).toNat : Nat) : Int) + ((((a0.getD ((i4_2 - 1).toNat) 0).toNat : Nat) : Int) * 256))
   else
    rBytes_j1 n a0 z3_2 i4_2 (rBytes_l1 n a0 fu_l1) (((a0.getD i4_2.toNat 0).toNat : Nat) : Int)
  else
   (rtrim n z3_2).bind fun r34_2 =>
   some (((z3_2.drop 0).take r34_2.2), r34_2.2)
def rBytes (n : Nat) (a0 : List UInt8) : Option (List Int × Nat) :=
 gd (okI .i64 (((a0.length : Nat) : Int) - 1)) <|
 rBytes_l1 n a0 n [] (((a0.length : Nat) : Int) - 1)
def rWrite_j1 (n : Nat) (a0 : List Int) (a1 : Int) (l6_1 : List UInt8) (i7_1 : Int) (k_l1 : (List UInt8) → Int → Option (List UInt8 × Nat × Bool)) (i8_5 : Int) : Option (List UInt8 × Nat × Bool) :=
 gd (okI .i64 (a1 - 1)) <|
 gd (okI .i64 ((a1 - 1) - i7_1)) <|
 gd ((256 : Int) ≠ 0) <|
 gd (0 ≤ ((a1 - 1) - i7_1)) <|
 gd (((a1 - 1) - i7_1) < ((a1.toNat : Nat) : Int)) <|
 gd (okI .i64 (i7_1 + 1)) <|
 k_l1 (l6_1.set (((a1 - 1) - i7_1).toNat) (UInt8.ofInt (Int.tmod i8_5 256))) (i7_1 + 1)
def rWrite_l1 (n : Nat) (a0 : List Int) (a1 : Int) : Nat → List UInt8 → Int → Option (List UInt8 × Nat × Bool)
 | 0, _, _ => none
 | fu_l1 + 1, l6_1, i7_1 =>
 bif (decide (i7_1 < a1)) then
 gd ((2 : Int) ≠ 0) <|
 gd (okI .i64 (Int.tdiv i7_1 2)) <|
 bif (decide ((Int.tdiv i7_1 2) < ((a0.length : Nat) : Int))) then
 gd ((2 : Int) ≠ 0) <|
 gd (okI .i64 (Int.tdiv i7_1 2)) <|
 gd (0 ≤ (Int.tdiv i7_1 2)) <|
 gd ((Int.tdiv i7_1 2) < ((a0.length : Nat) : Int)) <|
 gd ((2 : Int) ≠ 0) <|
 bif ((Int.tmod i7_1 2) == 1) then
 gd ((256 : Int) ≠ 0) <|
 gd (okI .i64 (Int.tdiv (a0.getD ((Int.tdiv i7_1 2).toNat) 0) 256)) <|
 rWrite_j1 n a0 a1 l6_1 i7_1 (rWrite_l1 n a0 a1 fu_l1) (Int.tdiv (a0.getD ((Int.tdiv i7_1 2).toNat) 0) 256)
 else
 rWrite_j1 n a0 a1 l6_1 i7_1 (rWrite_l1 n a0 a1 fu_l1) (a0.getD ((Int.tdiv i7_1 2).toNat) 0)
 else
 some (l6_1, a1.toNat, true)
 else
 some (l6_1, a1.toNat, true)
def rWrite (n : Nat) (a0 : List Int) (a1 : Int) : Option (List UInt8 × Nat × Bool) :=
 bif (decide (a1 < (0 : Int))) then
  some ([], 0, false)
 else
  (rSize n a0).bind fun r13 =>
  bif (decide (a1 < r13)) then
   some ([], 0, false)
  else
   gd (0 ≤ a1) <|
   gd (a1 = a1) <|
   gd (rmB a1.toNat 1) <|
   rWrite_l1 n a0 a1 n (List.replicate a1.toNat 0) 0
def rtrim_l1_E (a0 : List Int) (i3_2 : Int) : S := ⟨[(0, kH 0), (3, kI i3_2)], [(1000000, kH 0)], [oz 3 a0]⟩
abbrev rtrim_l1_P (n : Nat) (a0 : List Int) (r : List Int × Nat) (fu : Nat) : S → Prop := fun s => ∃ (i3_2 : Int), s = rtrim_l1_E a0 i3_2 ∧ rtrim_l1 n a0 fu i3_2 = some r
def rtrim_R (r : List Int × Nat) : S := ⟨[(2, .c (.sl 0 0 r.2))], [(1000000, kH 0)], [oz 3 r.1]⟩
def rtrim_ct (n : Nat) (r : List Int × Nat) : Ct := ctc aZ fun x0 l0 => ctl (fun H => subC 0 r.2 x0) fun ys => ct0 fun H => ([rtrim n l0 = some r], ys, [])
theorem rtrim_ok (n : Nat) (r : List Int × Nat) : FnOk Tryd.prog Tr 40 (rtrim_ct n r) := by
 refine ⟨fun args H g av objs hF hg ρ w vals hG hp ha => ?_, _, Tryd.func40, by kernel_rfl, by kernel_rfl⟩
 obtain ⟨x0, _, l0, rfl, e0, hF⟩ := ctc_inv hF
 obtain ⟨ys, e1, hF⟩ := ctl_inv hF
 obtain ⟨rfl, rfl, rfl, rfl⟩ := ct0_inv hF
 dsimp only
 obtain ⟨v0, vals, rfl, k0, ha⟩ := F2.inv ha
 obtain rfl := F2.inv0 ha
 have h : rtrim n l0 = some r := hg
 obtain ⟨p0, s0, o0⟩ := aZ_ok hp e0 (k0) 3
 have kk := k0
 have zz := aZ_sz hp e0
 have hR0 := rel0 (gv := (fun j => ([v0] : List Value).getD j undef)) (n := 21) (w := w) (args := [kH 0]) (H := [⟨.ro false, 3, 1, l0.length, .z l0⟩]) (gl := [(1000000, .c (.wh 0))]) (hpL (ps := [p0]) (F2.cons o0 F2.nil)) (allRo_ok rfl) (F2.cons s0 F2.nil) (GlR.cons 0 s0 GlR.nil) (by simp)
 clear ha hp hg hF k0 e0
 refine calls_W Tryd.func40 rfl rfl hR0 (Q := fun e s => (e = .ret ∨ e = .normal) ∧ s = rtrim_R r) ?_ ?_
 ·clear hR0
  unfold rtrim at h
  have hT := tabO_dd
  refine Vrs hT [0] ⟨[(0, kH 0)], [(1000000, kH 0)], [oz 3 l0]⟩ ?_
  refine Vrs hT [0] ⟨[(0, kH 0), (3, kI ((l0.length : Nat) : Int))], [(1000000, kH 0)], [oz 3 l0]⟩ ?_
  refine W_seq ?_
  refine W_block ?_
  refine Vc [] [0] (rtrim_l1_E l0 ((l0.length : Nat) : Int)) (W_lp ((rtrim_l1_P n l0 r)) n ⟨_, rfl, h⟩ ?_)
  rintro fu_l1 _ ⟨i3_2, rfl, h⟩
  cases fu_l1 with
  | zero => cases h
  | succ fu_l1 =>
   refine ⟨fu_l1, rfl, ?_⟩
   rw [rtrim_l1] at h
   refine W_seq ?_
   refine W_seq ?_
   rcases Bool.eq_false_or_eq_true (decide ((0 : Int) < i3_2)) with g1 | g1
   ·replace h := bif_t h g1
    obtain ⟨g2, g3, g4, h⟩ := gd3 h
    refine Vg hT fN [(2, true)] [] [0] ⟨[(0, kH 0), (3, kI i3_2), (15, kB ((l0.getD ((i3_2 - 1).toNat) 0) == 0))], [(1000000, kH 0)], [oz 3 l0]⟩ (aP g1 (aP g2 (aP g3 (aP g4 aN)))) ?_
    refine Vi (((l0.getD ((i3_2 - 1).toNat) 0) == 0)) (fun g8 => ?_) (fun g8 => ?_)
    ·replace h := bif_t h g8
     refine W_skip ?_
     refine W_block ?_
     obtain ⟨g5, h⟩ := gd_some h
     refine Vg hT fN [] [] [0] (rtrim_l1_E l0 (i3_2 - 1)) (aP g5 aN) ?_
     exact ⟨_, rfl, h⟩
    ·replace h := bif_f h g8
     refine Vc [] [0] ⟨[(0, kH 0), (3, kI i3_2)], [(1000000, kH 0)], [oz 3 l0]⟩ (W_exit ?_)
     obtain ⟨g6, g7, h⟩ := gd2 h
     refine Vgs hT fN [] [] [0] ⟨[(2, .c (.sl 0 0 i3_2.toNat))], [(1000000, kH 0)], [oz 3 l0]⟩ (aP g6 (aP g7 aN)) ?_
     refine Vc [] [0] (rtrim_R (l0, i3_2.toNat)) (W_ret ?_)
     exact ⟨.inl rfl, by cases h; rfl⟩
   ·replace h := bif_f h g1
    refine Vg hT fN [(2, false)] [] [0] ⟨[(0, kH 0), (3, kI i3_2), (15, kB false)], [(1000000, kH 0)], [oz 3 l0]⟩ (aP g1 aN) ?_
    refine Vi (false) (fun hb => by cases hb) (fun _ => ?_)
    refine Vc [] [0] ⟨[(0, kH 0), (3, kI i3_2)], [(1000000, kH 0)], [oz 3 l0]⟩ (W_exit ?_)
    obtain ⟨g9, g10, h⟩ := gd2 h
    refine Vgs hT fN [] [] [0] ⟨[(2, .c (.sl 0 0 i3_2.toNat))], [(1000000, kH 0)], [oz 3 l0]⟩ (aP g9 (aP g10 aN)) ?_
    refine Vc [] [0] (rtrim_R (l0, i3_2.toNat)) (W_ret ?_)
    exact ⟨.inl rfl, by cases h; rfl⟩
 ·rintro e s' ⟨he, rfl⟩
  refine ⟨he, fun a' w' hr => ?_⟩
  exact retB_ok (q := 0) hr rfl rfl rfl (by kernel_rfl) kk zz e1
def rOf_l1_E (a0 : List UInt32) (z3_2 : List Int) (i4_2 : Int) : S := ⟨[(0, kH 0), (3, kH 1), (4, kI i4_2)], [], [ow 55 a0, nz 3 z3_2]⟩
abbrev rOf_l1_P (n : Nat) (a0 : List UInt32) (r : List Int × Nat) (fu : Nat) : S → Prop := fun s => ∃ (z3_2 : List Int), ∃ (i4_2 : Int), s = rOf_l1_E a0 z3_2 i4_2 ∧ rOf_l1 n a0 fu z3_2 i4_2 = some r
def rOf_R (r : List Int × Nat) : S := ⟨[(2, kH 0)], [], [⟨(.ro true), 3, 1, r.2, .z r.1⟩]⟩
def rOf_ct (n : Nat) (r : List Int × Nat) : Ct := ctc (rW 55).rd fun _ l0 => ct0 fun H => ([rOf n l0 = some r], shA H.length (kH 0), shH H.length [⟨(.ro true), 3, 1, r.2, .z r.1⟩])
theorem rOf_ok (n : Nat) (r : List Int × Nat) : FnOk Tryd.prog Tr 21 (rOf_ct n r) := by
 refine fnok Tryd.func21 ?_
 refine HO_c (rW 55) fun l0 _ => HO_0 tabO_dd (rOf_R r) [.tmp 2] [0] 28 Tryd.func21 fun w hG h => ?_
 unfold rOf at h
 have hT := tabO_dd
 refine Vrs hT [0] ⟨[(0, kH 0)], [], [ow 55 l0]⟩ ?_
 refine Vrs hT [0] ⟨[(0, kH 0), (3, .c (.nils))], [], [ow 55 l0]⟩ ?_
 refine W_seq ?_
 refine Vrs hT [0] ⟨[(0, kH 0), (3, .c (.nils)), (4, kI 0)], [], [ow 55 l0]⟩ ?_
 refine W_block ?_
 refine Vc [.nil 3 3 1 (.z [])] [0, 1] (rOf_l1_E l0 [] 0) (W_lp ((rOf_l1_P n l0 r)) n ⟨_, _, rfl, h⟩ ?_)
 rintro fu_l1 _ ⟨z3_2, i4_2, rfl, h⟩
 cases fu_l1 with
 | zero => cases h
 | succ fu_l1 =>
  refine ⟨fu_l1, rfl, ?_⟩
  rw [rOf_l1] at h
  refine W_seq ?_
  refine Vrs hT [0, 1] ⟨[(0, kH 0), (3, kH 1), (4, kI i4_2), (8, kB (decide (i4_2 < ((l0.length : Nat) : Int))))], [], [ow 55 l0, nz 3 z3_2]⟩ ?_
  refine Vi ((decide (i4_2 < ((l0.length : Nat) : Int)))) (fun g10 => ?_) (fun g10 => ?_)
  ·replace h := bif_t h g10
   refine W_skip ?_
   refine W_seq ?_
   refine W_block ?_
   obtain ⟨g1, g2, g3, g4, g5, h⟩ := gd5 h
   obtain ⟨g6, g7, h⟩ := gd2 h
   refine Vd hT fN 14 [] [(0, false), (3, false), (4, false), (11, false), (24, false)] [] [0, 3] ⟨[(0, kH 0), (3, kH 1), (4, kI i4_2)], [], [ow 55 l0, nz 3 (z3_2 ++ [((((l0.getD i4_2.toNat 0) % (65536 : UInt32)).toNat : Nat) : Int), ((((l0.getD i4_2.toNat 0) / (65536 : UInt32)).toNat : Nat) : Int)])]⟩ (aP g1 (aP g2 (aP g3 (aP g4 (aP g5 (aP g6 (aP g7 aN))))))) ?_
   obtain ⟨g8, h⟩ := gd_some h
   refine Vg hT fN [] [] [0, 1] (rOf_l1_E l0 (z3_2 ++ [((((l0.getD i4_2.toNat 0) % (65536 : UInt32)).toNat : Nat) : Int), ((((l0.getD i4_2.toNat 0) / (65536 : UInt32)).toNat : Nat) : Int)]) (i4_2 + 1)) (aP g8 aN) ?_
   exact ⟨_, _, rfl, h⟩
  ·replace h := bif_f h g10
   refine Vc [] [1] ⟨[(3, kH 0)], [], [nz 3 z3_2]⟩ (W_exit ?_)
   obtain ⟨r27_2, g9, h⟩ := bind_some' h
   refine Vgs hT (fT 1 (rtrim_ok n r27_2) fN) [] [] [0] ⟨[(2, .c (.sl 0 0 r27_2.2))], [], [nz 3 z3_2]⟩ (aP g9 aN) ?_
   refine Vc [.vw 2 true] [1] (rOf_R (((z3_2.drop 0).take r27_2.2), r27_2.2)) (W_ret ?_)
   exact ⟨.inl rfl, by cases h; rfl⟩
def rCmp_l1_E (a0 : List Int) (a1 : List Int) (i5_2 : Int) : S := ⟨[(0, kH 0), (1, kH 1), (5, kI i5_2)], [], [oz 3 a0, oz 3 a1]⟩
abbrev rCmp_l1_P (n : Nat) (a0 : List Int) (a1 : List Int) (r : Int) (fu : Nat) : S → Prop := fun s => ∃ (i5_2 : Int), s = rCmp_l1_E a0 a1 i5_2 ∧ rCmp_l1 n a0 a1 fu i5_2 = some r
def rCmp_R (r : Int) : S := ⟨[(4, kI r)], [], []⟩
def rCmp_ct (n : Nat) (r : Int) : Ct := ctc (rZ 3).rd fun _ l0 => ctc (rZ 3).rd fun _ l1 => ct0 fun H => ([rCmp n l0 l1 = some r], shA H.length (kI r), shH H.length [])
theorem rCmp_ok (n : Nat) (r : Int) : FnOk Tryd.prog Tr 20 (rCmp_ct n r) := by
 refine fnok Tryd.func20 ?_
 refine HO_c (rZ 3) fun l0 _ => HO_c (rZ 3) fun l1 _ => HO_0 tabO_dd (rCmp_R r) [.tmp 4] [] 41 Tryd.func20 fun w hG h => ?_
 unfold rCmp at h
 have hT := tabO_dd
 refine Vrs hT [0, 1] ⟨[(0, kH 0), (1, kH 1)], [], [oz 3 l0, oz 3 l1]⟩ ?_
 refine W_seq ?_
 refine Vrs hT [0, 1] ⟨[(0, kH 0), (1, kH 1), (10, kB (((l0.length : Nat) : Int) != ((l1.length : Nat) : Int)))], [], [oz 3 l0, oz 3 l1]⟩ ?_
 refine Vi ((((l0.length : Nat) : Int) != ((l1.length : Nat) : Int))) (fun g15 => ?_) (fun g15 => ?_)
 ·replace h := bif_t h g15
  refine W_seq ?_
  refine Vrs hT [] ⟨[(15, kB (decide (((l0.length : Nat) : Int) < ((l1.length : Nat) : Int))))], [], []⟩ ?_
  refine Vi ((decide (((l0.length : Nat) : Int) < ((l1.length : Nat) : Int)))) (fun g1 => ?_) (fun g1 => ?_)
  ·replace h := bif_t h g1
   refine Vrs hT [] ⟨[(4, kI (-1))], [], []⟩ ?_
   refine Vc [] [] (rCmp_R (-1)) (W_ret ?_)
   exact ⟨.inl rfl, by cases h; rfl⟩
  ·replace h := bif_f h g1
   refine W_skip ?_
   refine Vrs hT [] ⟨[(4, kI 1)], [], []⟩ ?_
   refine Vc [] [] (rCmp_R 1) (W_ret ?_)
   exact ⟨.inl rfl, by cases h; rfl⟩
 ·replace h := bif_f h g15
  refine W_skip ?_
  refine W_seq ?_
  obtain ⟨g2, h⟩ := gd_some h
  refine Vgs hT fN [] [] [0, 1] ⟨[(0, kH 0), (1, kH 1), (5, kI (((l0.length : Nat) : Int) - 1))], [], [oz 3 l0, oz 3 l1]⟩ (aP g2 aN) ?_
  refine W_block ?_
  refine Vc [] [0, 1] (rCmp_l1_E l0 l1 (((l0.length : Nat) : Int) - 1)) (W_lp ((rCmp_l1_P n l0 l1 r)) n ⟨_, rfl, h⟩ ?_)
  rintro fu_l1 _ ⟨i5_2, rfl, h⟩
  cases fu_l1 with
  | zero => cases h
  | succ fu_l1 =>
   refine ⟨fu_l1, rfl, ?_⟩
   rw [rCmp_l1] at h
   refine W_seq ?_
   refine Vrs hT [0, 1] ⟨[(0, kH 0), (1, kH 1), (5, kI i5_2), (20, kB (decide ((0 : Int) ≤ i5_2)))], [], [oz 3 l0, oz 3 l1]⟩ ?_
   refine Vi ((decide ((0 : Int) ≤ i5_2))) (fun g14 => ?_) (fun g14 => ?_)
   ·replace h := bif_t h g14
    refine W_skip ?_
    refine W_seq ?_
    refine W_block ?_
    obtain ⟨g3, g4, g5, g6, h⟩ := gd4 h
    refine Vds hT fN 8 [] [(0, false), (1, false), (5, false), (26, false), (30, false)] [] [0, 1] ⟨[(0, kH 0), (1, kH 1), (5, kI i5_2), (31, kB ((l0.getD i5_2.toNat 0) != (l1.getD i5_2.toNat 0)))], [], [oz 3 l0, oz 3 l1]⟩ (aP g3 (aP g4 (aP g5 (aP g6 aN)))) ?_
    refine Vi (((l0.getD i5_2.toNat 0) != (l1.getD i5_2.toNat 0))) (fun g13 => ?_) (fun g13 => ?_)
    ·replace h := bif_t h g13
     refine W_seq ?_
     obtain ⟨g7, g8, g9, g10, h⟩ := gd4 h
     refine Vds hT fN 8 [] [(35, false), (39, false)] [] [] ⟨[(40, kB (decide ((l0.getD i5_2.toNat 0) < (l1.getD i5_2.toNat 0))))], [], []⟩ (aP g7 (aP g8 (aP g9 (aP g10 aN)))) ?_
     refine Vi ((decide ((l0.getD i5_2.toNat 0) < (l1.getD i5_2.toNat 0)))) (fun g11 => ?_) (fun g11 => ?_)
     ·replace h := bif_t h g11
      refine Vrs hT [] ⟨[(4, kI (-1))], [], []⟩ ?_
      refine Vc [] [] (rCmp_R (-1)) (W_ret ?_)
      exact ⟨.inl rfl, by cases h; rfl⟩
     ·replace h := bif_f h g11
      refine W_skip ?_
      refine Vrs hT [] ⟨[(4, kI 1)], [], []⟩ ?_
      refine Vc [] [] (rCmp_R 1) (W_ret ?_)
      exact ⟨.inl rfl, by cases h; rfl⟩
    ·replace h := bif_f h g13
     refine W_skip ?_
     obtain ⟨g12, h⟩ := gd_some h
     refine Vg hT fN [] [] [0, 1] (rCmp_l1_E l0 l1 (i5_2 - 1)) (aP g12 aN) ?_
     exact ⟨_, rfl, h⟩
   ·replace h := bif_f h g14
    refine Vc [] [] ⟨[], [], []⟩ (W_exit ?_)
    refine Vrs hT [] ⟨[(4, kI 0)], [], []⟩ ?_
    refine Vc [] [] (rCmp_R 0) (W_ret ?_)
    exact ⟨.inl rfl, by cases h; rfl⟩
def rSize_j1_E (i3_2 : Int) : S := ⟨[(3, kI i3_2)], [], []⟩
abbrev rSize_j1_P (n : Nat) (r : Int) : S → Prop := fun s => ∃ (i3_2 : Int), s = rSize_j1_E i3_2 ∧ rSize_j1 n i3_2 = some r
def rSize_R (r : Int) : S := ⟨[(2, kI r)], [], []⟩
def rSize_ct (n : Nat) (r : Int) : Ct := ctc (rZ 3).rd fun _ l0 => ct0 fun H => ([rSize n l0 = some r], shA H.length (kI r), shH H.length [])
theorem rSize_ok (n : Nat) (r : Int) : FnOk Tryd.prog Tr 31 (rSize_ct n r) := by
 refine fnok Tryd.func31 ?_
 refine HO_c (rZ 3) fun l0 _ => HO_0 tabO_dd (rSize_R r) [.tmp 2] [] 21 Tryd.func31 fun w hG h => ?_
 unfold rSize at h
 have hT := tabO_dd
 refine Vrs hT [0] ⟨[(0, kH 0)], [], [oz 3 l0]⟩ ?_
 obtain ⟨g1, h⟩ := gd_some h
 refine Vgs hT fN [] [] [0] ⟨[(0, kH 0), (3, kI (2 * ((l0.length : Nat) : Int)))], [], [oz 3 l0]⟩ (aP g1 aN) ?_
 refine W_join (rSize_j1_P n r) ?_ ?_
 ·rintro _ ⟨i3_2, rfl, h⟩
  unfold rSize_j1 at h
  refine Vrs hT [] ⟨[(2, kI i3_2)], [], []⟩ ?_
  refine Vc [] [] (rSize_R i3_2) (W_ret ?_)
  exact ⟨.inl rfl, by cases h; rfl⟩
 ·refine W_seq ?_
  rcases Bool.eq_false_or_eq_true (decide ((0 : Int) < (2 * ((l0.length : Nat) : Int)))) with g2 | g2
  ·replace h := bif_t h g2
   obtain ⟨g3, g4, g5, h⟩ := gd3 h
   refine Vg hT fN [(2, true)] [] [] ⟨[(3, kI (2 * ((l0.length : Nat) : Int))), (17, kB (decide ((l0.getD ((((l0.length : Nat) : Int) - 1).toNat) 0) < (256 : Int))))], [], []⟩ (aP g2 (aP g3 (aP g4 (aP g5 aN)))) ?_
   refine Vi ((decide ((l0.getD ((((l0.length : Nat) : Int) - 1).toNat) 0) < (256 : Int)))) (fun g7 => ?_) (fun g7 => ?_)
   ·replace h := bif_t h g7
    obtain ⟨g6, h⟩ := gd_some h
    refine Vg hT fN [] [] [] (rSize_j1_E ((2 * ((l0.length : Nat) : Int)) - 1)) (aP g6 aN) ?_
    exact ⟨_, rfl, h⟩
   ·replace h := bif_f h g7
    refine Vc [] [] (rSize_j1_E (2 * ((l0.length : Nat) : Int))) (W_skip ?_)
    exact ⟨_, rfl, h⟩
  ·replace h := bif_f h g2
   refine Vg hT fN [(2, false)] [] [] ⟨[(3, kI (2 * ((l0.length : Nat) : Int))), (17, kB false)], [], []⟩ (aP g2 aN) ?_
   refine Vi (false) (fun hb => by cases hb) (fun _ => ?_)
   refine Vc [] [] (rSize_j1_E (2 * ((l0.length : Nat) : Int))) (W_skip ?_)
   exact ⟨_, rfl, h⟩
def rdigit_R (r : Int) : S := ⟨[(4, kI r)], [], []⟩
def rdigit_ct (n : Nat) (r : Int) : Ct := ctc (rZ 3).rd fun _ l0 => ctc rI.rd fun _ l1 => ct0 fun H => ([rdigit n l0 l1 = some r], shA H.length (kI r), shH H.length [])
theorem rdigit_ok (n : Nat) (r : Int) : FnOk Tryd.prog Tr 102 (rdigit_ct n r) := by
 refine fnok Tryd.func102 ?_
 refine HO_c (rZ 3) fun l0 _ => HO_c rI fun l1 _ => HO_0 tabO_dd (rdigit_R r) [.tmp 4] [] 13 Tryd.func102 fun w hG h => ?_
 unfold rdigit at h
 have hT := tabO_dd
 refine Vrs hT [0] ⟨[(0, kH 0), (1, kI l1)], [], [oz 3 l0]⟩ ?_
 refine W_seq ?_
 refine Vrs hT [0] ⟨[(0, kH 0), (1, kI l1), (8, kB (decide (l1 < ((l0.length : Nat) : Int))))], [], [oz 3 l0]⟩ ?_
 refine Vi ((decide (l1 < ((l0.length : Nat) : Int)))) (fun g3 => ?_) (fun g3 => ?_)
 ·replace h := bif_t h g3
  obtain ⟨g1, g2, h⟩ := gd2 h
  refine Vgs hT fN [] [] [] ⟨[(4, kI (l0.getD l1.toNat 0))], [], []⟩ (aP g1 (aP g2 aN)) ?_
  refine Vc [] [] (rdigit_R (l0.getD l1.toNat 0)) (W_ret ?_)
  exact ⟨.inl rfl, by cases h; rfl⟩
 ·replace h := bif_f h g3
  refine Vc [] [] ⟨[], [], []⟩ (W_skip ?_)
  refine Vrs hT [] ⟨[(4, kI 0)], [], []⟩ ?_
  refine Vc [] [] (rdigit_R 0) (W_ret ?_)
  exact ⟨.inl rfl, by cases h; rfl⟩
def rfit_j1_E (i6_2 : Int) : S := ⟨[(6, kI i6_2)], [], []⟩
abbrev rfit_j1_P (n : Nat) (r : Int) : S → Prop := fun s => ∃ (i6_2 : Int), s = rfit_j1_E i6_2 ∧ rfit_j1 n i6_2 = some r
def rfit_R (r : Int) : S := ⟨[(4, kI r)], [], []⟩
def rfit_ct (n : Nat) (r : Int) : Ct := ctc (rZ 3).rd fun _ l0 => ctc (rZ 3).rd fun _ l1 => ct0 fun H => ([rfit n l0 l1 = some r], shA H.length (kI r), shH H.length [])
theorem rfit_ok (n : Nat) (r : Int) : FnOk Tryd.prog Tr 93 (rfit_ct n r) := by
 refine fnok Tryd.func93 ?_
 refine HO_c (rZ 3) fun l0 _ => HO_c (rZ 3) fun l1 _ => HO_0 tabO_dd (rfit_R r) [.tmp 4] [] 53 Tryd.func93 fun w hG h => ?_
 unfold rfit at h
 have hT := tabO_dd
 refine Vrs hT [0, 1] ⟨[(0, kH 0), (1, kH 1)], [], [oz 3 l0, oz 3 l1]⟩ ?_
 refine Vrs hT [0, 1] ⟨[(0, kH 0), (1, kH 1), (5, kI ((l1.length : Nat) : Int))], [], [oz 3 l0, oz 3 l1]⟩ ?_
 refine Vrs hT [0, 1] ⟨[(0, kH 0), (1, kH 1), (5, kI ((l1.length : Nat) : Int))], [], [oz 3 l0, oz 3 l1]⟩ ?_
 refine W_join (rfit_j1_P n r) ?_ ?_
 ·rintro _ ⟨i6_2, rfl, h⟩
  unfold rfit_j1 at h
  refine W_seq ?_
  refine Vrs hT [] ⟨[(6, kI i6_2), (51, kB (i6_2 == 0))], [], []⟩ ?_
  refine Vi ((i6_2 == 0)) (fun g1 => ?_) (fun g1 => ?_)
  ·replace h := bif_t h g1
   refine Vrs hT [] ⟨[(4, kI 1)], [], []⟩ ?_
   refine Vc [] [] (rfit_R 1) (W_ret ?_)
   exact ⟨.inl rfl, by cases h; rfl⟩
  ·replace h := bif_f h g1
   refine W_skip ?_
   refine Vrs hT [] ⟨[(4, kI i6_2)], [], []⟩ ?_
   refine Vc [] [] (rfit_R i6_2) (W_ret ?_)
   exact ⟨.inl rfl, by cases h; rfl⟩
 ·refine W_seq ?_
  refine Vr hT [0, 1] ⟨[(0, kH 0), (1, kH 1), (5, kI ((l1.length : Nat) : Int)), (10, kB (((l1.length : Nat) : Int) == 1))], [], [oz 3 l0, oz 3 l1]⟩ ?_
  refine Vi ((((l1.length : Nat) : Int) == 1)) (fun g30 => ?_) (fun g30 => ?_)
  ·replace h := bif_t h g30
   obtain ⟨r12, g2, h⟩ := bind_some' h
   obtain ⟨g3, h⟩ := gd_some h
   obtain ⟨r15, g4, h⟩ := bind_some' h
   obtain ⟨g5, g6, g7, g8, g9, h⟩ := gd5 h
   refine Vd hT (fT 1 (rdigit_ok n r12) (fT 4 (rdigit_ok n r15) fN)) 9 [] [(16, false), (19, false)] [] [] (rfit_j1_E (Int.tdiv ((r12 * 65536) + r15) (l1.getD 0 0))) (aP g2 (aP g3 (aP g4 (aP g5 (aP g6 (aP g7 (aP g8 (aP g9 aN)))))))) ?_
   exact ⟨_, rfl, h⟩
  ·replace h := bif_f h g30
   obtain ⟨r23, g10, h⟩ := bind_some' h
   obtain ⟨g11, g12, h⟩ := gd2 h
   obtain ⟨r28, g13, h⟩ := bind_some' h
   obtain ⟨g14, g15, g16, h⟩ := gd3 h
   obtain ⟨r34, g17, h⟩ := bind_some' h
   obtain ⟨g18, g19, g20, g21, g22, h⟩ := gd5 h
   obtain ⟨g23, g24, g25, g26, g27, h⟩ := gd5 h
   obtain ⟨g28, g29, h⟩ := gd2 h
   refine Vd hT (fT 2 (rdigit_ok n r23) (fT 7 (rdigit_ok n r28) (fT 13 (rdigit_ok n r34) fN))) 28 [] [(35, false), (48, false)] [] [] (rfit_j1_E (Int.tdiv ((((r23 * 65536) + r28) * 65536) + r34) ((((l1.getD ((((l1.length : Nat) : Int) - 1).toNat) 0) * 65536) + (l1.getD ((((l1.length : Nat) : Int) - 2).toNat) 0)) + 1))) (aP g10 (aP g11 (aP g12 (aP g13 (aP g14 (aP g15 (aP g16 (aP g17 (aP g18 (aP g19 (aP g20 (aP g21 (aP g22 (aP g23 (aP g24 (aP g25 (aP g26 (aP g27 (aP g28 (aP g29 aN)))))))))))))))))))) ?_
   exact ⟨_, rfl, h⟩
def rMul_l2_E (a0 : List Int) (a1 : List Int) (i6_2 : Int) (z5_11 : List Int) (i7_8 : Int) (i8_8 : Int) : S := ⟨[(0, kH 0), (1, kH 1), (5, kH 2), (6, kI i6_2), (7, kI i7_8), (8, kI i8_8)], [], [oz 3 a0, oz 3 a1, ⟨.row, 3, 1, (((a0.length : Nat) : Int) + ((a1.length : Nat) : Int)).toNat, .z z5_11⟩]⟩
abbrev rMul_l2_P (n : Nat) (a0 : List Int) (a1 : List Int) (i6_2 : Int) (k_l1 : (List Int) → Int → Option (List Int × Nat)) (r : List Int × Nat) (fu : Nat) : S → Prop := fun s => ∃ (z5_11 : List Int), ∃ (i7_8 : Int), ∃ (i8_8 : Int), s = rMul_l2_E a0 a1 i6_2 z5_11 i7_8 i8_8 ∧ rMul_l2 n a0 a1 i6_2 k_l1 fu z5_11 i7_8 i8_8 = some r
def rMul_l1_E (a0 : List Int) (a1 : List Int) (z5_9 : List Int) (i6_2 : Int) : S := ⟨[(0, kH 0), (1, kH 1), (5, kH 2), (6, kI i6_2)], [], [oz 3 a0, oz 3 a1, ⟨.row, 3, 1, (((a0.length : Nat) : Int) + ((a1.length : Nat) : Int)).toNat, .z z5_9⟩]⟩
abbrev rMul_l1_P (n : Nat) (a0 : List Int) (a1 : List Int) (r : List Int × Nat) (fu : Nat) : S → Prop := fun s => ∃ (z5_9 : List Int), ∃ (i6_2 : Int), s = rMul_l1_E a0 a1 z5_9 i6_2 ∧ rMul_l1 n a0 a1 fu z5_9 i6_2 = some r
def rMul_R (r : List Int × Nat) : S := ⟨[(4, kH 0)], [], [⟨(.ro true), 3, 1, r.2, .z r.1⟩]⟩
def rMul_ct (n : Nat) (r : List Int × Nat) : Ct := ctc (rZ 3).rd fun _ l0 => ctc (rZ 3).rd fun _ l1 => ct0 fun H => ([rMul n l0 l1 = some r], shA H.length (kH 0), shH H.length [⟨(.ro true), 3, 1, r.2, .z r.1⟩])
theorem rMul_ok (n : Nat) (r : List Int × Nat) : FnOk Tryd.prog Tr 56 (rMul_ct n r) := by
 refine fnok Tryd.func56 ?_
 refine HO_c (rZ 3) fun l0 _ => HO_c (rZ 3) fun l1 _ => HO_0 tabO_dd (rMul_R r) [.tmp 4] [0] 63 Tryd.func56 fun w hG h => ?_
 unfold rMul at h
 have hT := tabO_dd
 refine Vrs hT [0, 1] ⟨[(0, kH 0), (1, kH 1)], [], [oz 3 l0, oz 3 l1]⟩ ?_
 obtain ⟨g1, g2, g3, g4, h⟩ := gd4 h
 refine Vgs hT fN [] [] [0, 1, 2] ⟨[(0, kH 0), (1, kH 1), (5, kH 2)], [], [oz 3 l0, oz 3 l1, ⟨.row, 3, 1, (((l0.length : Nat) : Int) + ((l1.length : Nat) : Int)).toNat, .z (List.replicate ((((l0.length : Nat) : Int) + ((l1.length : Nat) : Int)).toNat) 0)⟩]⟩ (aP g1 (aP g2 (aP g3 (aP g4 aN)))) ?_
 refine W_seq ?_
 refine Vrs hT [0, 1, 2] ⟨[(0, kH 0), (1, kH 1), (5, kH 2), (6, kI 0)], [], [oz 3 l0, oz 3 l1, ⟨.row, 3, 1, (((l0.length : Nat) : Int) + ((l1.length : Nat) : Int)).toNat, .z (List.replicate ((((l0.length : Nat) : Int) + ((l1.length : Nat) : Int)).toNat) 0)⟩]⟩ ?_
 refine W_block ?_
 refine Vc [] [0, 1, 2] (rMul_l1_E l0 l1 (List.replicate ((((l0.length : Nat) : Int) + ((l1.length : Nat) : Int)).toNat) 0) 0) (W_lp ((rMul_l1_P n l0 l1 r)) n ⟨_, _, rfl, h⟩ ?_)
 rintro fu_l1 _ ⟨z5_9, i6_2, rfl, h⟩
 cases fu_l1 with
 | zero => cases h
 | succ fu_l1 =>
  refine ⟨fu_l1, rfl, ?_⟩
  rw [rMul_l1] at h
  refine W_seq ?_
  refine Vrs hT [0, 1, 2] ⟨[(0, kH 0), (1, kH 1), (5, kH 2), (6, kI i6_2), (18, kB (decide (i6_2 < ((l0.length : Nat) : Int))))], [], [oz 3 l0, oz 3 l1, ⟨.row, 3, 1, (((l0.length : Nat) : Int) + ((l1.length : Nat) : Int)).toNat, .z z5_9⟩]⟩ ?_
  refine Vi ((decide (i6_2 < ((l0.length : Nat) : Int)))) (fun g28 => ?_) (fun g28 => ?_)
  ·replace h := bif_t h g28
   refine W_skip ?_
   refine W_seq ?_
   refine W_block ?_
   refine Vrs hT [0, 1, 2] ⟨[(0, kH 0), (1, kH 1), (5, kH 2), (6, kI i6_2), (7, kI 0)], [], [oz 3 l0, oz 3 l1, ⟨.row, 3, 1, (((l0.length : Nat) : Int) + ((l1.length : Nat) : Int)).toNat, .z z5_9⟩]⟩ ?_
   refine W_seq ?_
   refine Vrs hT [0, 1, 2] ⟨[(0, kH 0), (1, kH 1), (5, kH 2), (6, kI i6_2), (7, kI 0), (8, kI 0)], [], [oz 3 l0, oz 3 l1, ⟨.row, 3, 1, (((l0.length : Nat) : Int) + ((l1.length : Nat) : Int)).toNat, .z z5_9⟩]⟩ ?_
   refine W_block ?_
   refine Vc [] [0, 1, 2] (rMul_l2_E l0 l1 i6_2 z5_9 0 0) (W_lp ((rMul_l2_P n l0 l1 i6_2 (rMul_l1 n l0 l1 fu_l1) r)) n ⟨_, _, _, rfl, h⟩ ?_)
   rintro fu_l2 _ ⟨z5_11, i7_8, i8_8, rfl, h⟩
   cases fu_l2 with
   | zero => cases h
   | succ fu_l2 =>
    refine ⟨fu_l2, rfl, ?_⟩
    rw [rMul_l2] at h
    refine W_seq ?_
    refine Vrs hT [0, 1, 2] ⟨[(0, kH 0), (1, kH 1), (5, kH 2), (6, kI i6_2), (7, kI i7_8), (8, kI i8_8), (24, kB (decide (i8_8 < ((l1.length : Nat) : Int))))], [], [oz 3 l0, oz 3 l1, ⟨.row, 3, 1, (((l0.length : Nat) : Int) + ((l1.length : Nat) : Int)).toNat, .z z5_11⟩]⟩ ?_
    refine Vi ((decide (i8_8 < ((l1.length : Nat) : Int)))) (fun g26 => ?_) (fun g26 => ?_)
    ·replace h := bif_t h g26
     refine W_skip ?_
     refine W_seq ?_
     refine W_block ?_
     obtain ⟨g5, g6, g7, g8, g9, h⟩ := gd5 h
     obtain ⟨g10, g11, g12, g13, g14, h⟩ := gd5 h
     refine Vds hT fN 17 [] [(0, false), (1, false), (5, false), (6, false), (7, false), (8, false), (37, false), (43, false)] [] [0, 1, 2] ⟨[(0, kH 0), (1, kH 1), (5, kH 2), (6, kI i6_2), (7, kI ((i7_8 + ((l0.getD i6_2.toNat 0) * (l1.getD i8_8.toNat 0))) + (z5_11.getD ((i6_2 + i8_8).toNat) 0))), (8, kI i8_8)], [], [oz 3 l0, oz 3 l1, ⟨.row, 3, 1, (((l0.length : Nat) : Int) + ((l1.length : Nat) : Int)).toNat, .z z5_11⟩]⟩ (aP g5 (aP g6 (aP g7 (aP g8 (aP g9 (aP g10 (aP g11 (aP g12 (aP g13 (aP g14 aN)))))))))) ?_
     obtain ⟨g15, g16, g17, g18, h⟩ := gd4 h
     refine Vgs hT fN [] [] [0, 1, 2] ⟨[(0, kH 0), (1, kH 1), (5, kH 2), (6, kI i6_2), (7, kI ((i7_8 + ((l0.getD i6_2.toNat 0) * (l1.getD i8_8.toNat 0))) + (z5_11.getD ((i6_2 + i8_8).toNat) 0))), (8, kI i8_8)], [], [oz 3 l0, oz 3 l1, ⟨.row, 3, 1, (((l0.length : Nat) : Int) + ((l1.length : Nat) : Int)).toNat, .z (z5_11.set ((i6_2 + i8_8).toNat) (Int.tmod ((i7_8 + ((l0.getD i6_2.toNat 0) * (l1.getD i8_8.toNat 0))) + (z5_11.getD ((i6_2 + i8_8).toNat) 0)) 65536))⟩]⟩ (aP g15 (aP g16 (aP g17 (aP g18 aN)))) ?_
     obtain ⟨g19, g20, h⟩ := gd2 h
     refine Vg hT fN [] [] [0, 1, 2] ⟨[(0, kH 0), (1, kH 1), (5, kH 2), (6, kI i6_2), (7, kI (Int.tdiv ((i7_8 + ((l0.getD i6_2.toNat 0) * (l1.getD i8_8.toNat 0))) + (z5_11.getD ((i6_2 + i8_8).toNat) 0)) 65536)), (8, kI i8_8)], [], [oz 3 l0, oz 3 l1, ⟨.row, 3, 1, (((l0.length : Nat) : Int) + ((l1.length : Nat) : Int)).toNat, .z (z5_11.set ((i6_2 + i8_8).toNat) (Int.tmod ((i7_8 + ((l0.getD i6_2.toNat 0) * (l1.getD i8_8.toNat 0))) + (z5_11.getD ((i6_2 + i8_8).toNat) 0)) 65536))⟩]⟩ (aP g19 (aP g20 aN)) ?_
     obtain ⟨g21, h⟩ := gd_some h
     refine Vg hT fN [] [] [0, 1, 2] (rMul_l2_E l0 l1 i6_2 (z5_11.set ((i6_2 + i8_8).toNat) (Int.tmod ((i7_8 + ((l0.getD i6_2.toNat 0) * (l1.getD i8_8.toNat 0))) + (z5_11.getD ((i6_2 + i8_8).toNat) 0)) 65536)) (Int.tdiv ((i7_8 + ((l0.getD i6_2.toNat 0) * (l1.getD i8_8.toNat 0))) + (z5_11.getD ((i6_2 + i8_8).toNat) 0)) 65536) (i8_8 + 1)) (aP g21 aN) ?_
     exact ⟨_, _, _, rfl, h⟩
    ·replace h := bif_f h g26
     refine Vc [] [0, 1, 2] ⟨[(0, kH 0), (1, kH 1), (5, kH 2), (6, kI i6_2), (7, kI i7_8)], [], [oz 3 l0, oz 3 l1, ⟨.row, 3, 1, (((l0.length : Nat) : Int) + ((l1.length : Nat) : Int)).toNat, .z z5_11⟩]⟩ (W_exit ?_)
     obtain ⟨g22, g23, g24, h⟩ := gd3 h
     refine Vg hT fN [] [] [0, 1, 2] ⟨[(0, kH 0), (1, kH 1), (5, kH 2), (6, kI i6_2)], [], [oz 3 l0, oz 3 l1, ⟨.row, 3, 1, (((l0.length : Nat) : Int) + ((l1.length : Nat) : Int)).toNat, .z (z5_11.set ((i6_2 + ((l1.length : Nat) : Int)).toNat) i7_8)⟩]⟩ (aP g22 (aP g23 (aP g24 aN))) ?_
     obtain ⟨g25, h⟩ := gd_some h
     refine Vg hT fN [] [] [0, 1, 2] (rMul_l1_E l0 l1 (z5_11.set ((i6_2 + ((l1.length : Nat) : Int)).toNat) i7_8) (i6_2 + 1)) (aP g25 aN) ?_
     exact ⟨_, _, rfl, h⟩
  ·replace h := bif_f h g28
   refine Vc [] [2] ⟨[(5, kH 0)], [], [⟨.row, 3, 1, (((l0.length : Nat) : Int) + ((l1.length : Nat) : Int)).toNat, .z z5_9⟩]⟩ (W_exit ?_)
   obtain ⟨r62_2, g27, h⟩ := bind_some' h
   refine Vgs hT (fT 1 (rtrim_ok n r62_2) fN) [] [] [0] ⟨[(4, .c (.sl 0 0 r62_2.2))], [], [⟨.row, 3, 1, (((l0.length : Nat) : Int) + ((l1.length : Nat) : Int)).toNat, .z z5_9⟩]⟩ (aP g27 aN) ?_
   refine Vc [.vw 4 true] [1] (rMul_R (((z5_9.drop 0).take r62_2.2), r62_2.2)) (W_ret ?_)
   exact ⟨.inl rfl, by cases h; rfl⟩
def rSub_j1_E (a0 : List Int) (a1 : List Int) (z5_2 : List Int) (i7_2 : Int) (i6_11 : Int) (i8_8 : Int) : S := ⟨[(0, kH 0), (1, kH 1), (5, kH 2), (6, kI i6_11), (7, kI i7_2), (8, kI i8_8)], [], [oz 3 a0, oz 3 a1, nz 3 z5_2]⟩
abbrev rSub_j1_P (n : Nat) (a0 : List Int) (a1 : List Int) (z5_2 : List Int) (i7_2 : Int) (k_l1 : (List Int) → Int → Int → Option (List Int × Nat)) (r : List Int × Nat) : S → Prop := fun s => ∃ (i6_11 : Int), ∃ (i8_8 : Int), s = rSub_j1_E a0 a1 z5_2 i7_2 i6_11 i8_8 ∧ rSub_j1 n a0 a1 z5_2 i7_2 k_l1 i6_11 i8_8 = some r
def rSub_l1_E (a0 : List Int) (a1 : List Int) (z5_2 : List Int) (i6_9 : Int) (i7_2 : Int) : S := ⟨[(0, kH 0), (1, kH 1), (5, kH 2), (6, kI i6_9), (7, kI i7_2)], [], [oz 3 a0, oz 3 a1, nz 3 z5_2]⟩
abbrev rSub_l1_P (n : Nat) (a0 : List Int) (a1 : List Int) (r : List Int × Nat) (fu : Nat) : S → Prop := fun s => ∃ (z5_2 : List Int), ∃ (i6_9 : Int), ∃ (i7_2 : Int), s = rSub_l1_E a0 a1 z5_2 i6_9 i7_2 ∧ rSub_l1 n a0 a1 fu z5_2 i6_9 i7_2 = some r
def rSub_R (r : List Int × Nat) : S := ⟨[(4, kH 0)], [], [⟨(.ro true), 3, 1, r.2, .z r.1⟩]⟩
def rSub_ct (n : Nat) (r : List Int × Nat) : Ct := ctc (rZ 3).rd fun _ l0 => ctc (rZ 3).rd fun _ l1 => ct0 fun H => ([rSub n l0 l1 = some r], shA H.length (kH 0), shH H.length [⟨(.ro true), 3, 1, r.2, .z r.1⟩])
theorem rSub_ok (n : Nat) (r : List Int × Nat) : FnOk Tryd.prog Tr 94 (rSub_ct n r) := by
 refine fnok Tryd.func94 ?_
 refine HO_c (rZ 3) fun l0 _ => HO_c (rZ 3) fun l1 _ => HO_0 tabO_dd (rSub_R r) [.tmp 4] [0] 35 Tryd.func94 fun w hG h => ?_
 unfold rSub at h
 have hT := tabO_dd
 refine Vrs hT [0, 1] ⟨[(0, kH 0), (1, kH 1)], [], [oz 3 l0, oz 3 l1]⟩ ?_
 refine Vrs hT [0, 1] ⟨[(0, kH 0), (1, kH 1), (5, .c (.nils))], [], [oz 3 l0, oz 3 l1]⟩ ?_
 refine Vrs hT [0, 1] ⟨[(0, kH 0), (1, kH 1), (5, .c (.nils)), (6, kI 0)], [], [oz 3 l0, oz 3 l1]⟩ ?_
 refine W_seq ?_
 refine Vrs hT [0, 1] ⟨[(0, kH 0), (1, kH 1), (5, .c (.nils)), (6, kI 0), (7, kI 0)], [], [oz 3 l0, oz 3 l1]⟩ ?_
 refine W_block ?_
 refine Vc [.nil 5 3 1 (.z [])] [0, 1, 2] (rSub_l1_E l0 l1 [] 0 0) (W_lp ((rSub_l1_P n l0 l1 r)) n ⟨_, _, _, rfl, h⟩ ?_)
 rintro fu_l1 _ ⟨z5_2, i6_9, i7_2, rfl, h⟩
 cases fu_l1 with
 | zero => cases h
 | succ fu_l1 =>
  refine ⟨fu_l1, rfl, ?_⟩
  rw [rSub_l1] at h
  refine W_seq ?_
  refine Vrs hT [0, 1, 2] ⟨[(0, kH 0), (1, kH 1), (5, kH 2), (6, kI i6_9), (7, kI i7_2), (12, kB (decide (i7_2 < ((l0.length : Nat) : Int))))], [], [oz 3 l0, oz 3 l1, nz 3 z5_2]⟩ ?_
  refine Vi ((decide (i7_2 < ((l0.length : Nat) : Int)))) (fun g11 => ?_) (fun g11 => ?_)
  ·replace h := bif_t h g11
   refine W_skip ?_
   refine W_seq ?_
   refine W_block ?_
   obtain ⟨g1, g2, h⟩ := gd2 h
   obtain ⟨r21_3, g3, h⟩ := bind_some' h
   obtain ⟨g4, g5, h⟩ := gd2 h
   refine Vds hT (fT 6 (rdigit_ok n r21_3) fN) 9 [] [(0, false), (1, false), (5, false), (7, false), (22, false), (23, false)] [] [0, 1, 2] ⟨[(0, kH 0), (1, kH 1), (5, kH 2), (7, kI i7_2), (8, kI (((l0.getD i7_2.toNat 0) - r21_3) - i6_9))], [], [oz 3 l0, oz 3 l1, nz 3 z5_2]⟩ (aP g1 (aP g2 (aP g3 (aP g4 (aP g5 aN))))) ?_
   refine Vrs hT [0, 1, 2] ⟨[(0, kH 0), (1, kH 1), (5, kH 2), (6, kI 0), (7, kI i7_2), (8, kI (((l0.getD i7_2.toNat 0) - r21_3) - i6_9))], [], [oz 3 l0, oz 3 l1, nz 3 z5_2]⟩ ?_
   refine W_join (rSub_j1_P n l0 l1 z5_2 i7_2 (rSub_l1 n l0 l1 fu_l1) r) ?_ ?_
   ·rintro _ ⟨i6_11, i8_8, rfl, h⟩
    unfold rSub_j1 at h
    obtain ⟨g6, h⟩ := gd_some h
    refine Vg hT fN [] [] [0, 1, 4] ⟨[(0, kH 0), (1, kH 1), (5, kH 2), (6, kI i6_11), (7, kI i7_2)], [], [oz 3 l0, oz 3 l1, nz 3 (z5_2 ++ [i8_8])]⟩ (aP g6 aN) ?_
    obtain ⟨g7, h⟩ := gd_some h
    refine Vg hT fN [] [] [0, 1, 2] (rSub_l1_E l0 l1 (z5_2 ++ [i8_8]) i6_11 (i7_2 + 1)) (aP g7 aN) ?_
    exact ⟨_, _, _, rfl, h⟩
   ·refine W_seq ?_
    refine Vr hT [0, 1, 2] ⟨[(0, kH 0), (1, kH 1), (5, kH 2), (6, kI 0), (7, kI i7_2), (8, kI (((l0.getD i7_2.toNat 0) - r21_3) - i6_9)), (26, kB (decide ((((l0.getD i7_2.toNat 0) - r21_3) - i6_9) < (0 : Int))))], [], [oz 3 l0, oz 3 l1, nz 3 z5_2]⟩ ?_
    refine Vi ((decide ((((l0.getD i7_2.toNat 0) - r21_3) - i6_9) < (0 : Int)))) (fun g9 => ?_) (fun g9 => ?_)
    ·replace h := bif_t h g9
     obtain ⟨g8, h⟩ := gd_some h
     refine Vgs hT fN [] [] [0, 1, 2] ⟨[(0, kH 0), (1, kH 1), (5, kH 2), (7, kI i7_2), (8, kI ((((l0.getD i7_2.toNat 0) - r21_3) - i6_9) + 65536))], [], [oz 3 l0, oz 3 l1, nz 3 z5_2]⟩ (aP g8 aN) ?_
     refine Vr hT [0, 1, 2] (rSub_j1_E l0 l1 z5_2 i7_2 1 ((((l0.getD i7_2.toNat 0) - r21_3) - i6_9) + 65536)) ?_
     exact ⟨_, _, rfl, h⟩
    ·replace h := bif_f h g9
     refine Vc [] [0, 1, 2] (rSub_j1_E l0 l1 z5_2 i7_2 0 (((l0.getD i7_2.toNat 0) - r21_3) - i6_9)) (W_skip ?_)
     exact ⟨_, _, rfl, h⟩
  ·replace h := bif_f h g11
   refine Vc [] [2] ⟨[(5, kH 0)], [], [nz 3 z5_2]⟩ (W_exit ?_)
   obtain ⟨r34_2, g10, h⟩ := bind_some' h
   refine Vgs hT (fT 1 (rtrim_ok n r34_2) fN) [] [] [0] ⟨[(4, .c (.sl 0 0 r34_2.2))], [], [nz 3 z5_2]⟩ (aP g10 aN) ?_
   refine Vc [.vw 4 true] [1] (rSub_R (((z5_2.drop 0).take r34_2.2), r34_2.2)) (W_ret ?_)
   exact ⟨.inl rfl, by cases h; rfl⟩
def rDiv_l2_E (a0 : List Int) (a1 : List Int) (i8_1 : Int) (z6_7 : List Int) (z7_7 : List Int) (m7_7 : Nat) : S := ⟨[(0, kH 0), (1, kH 1), (6, kH 2), (7, kH 3), (8, kI i8_1)], [], [oz 3 a0, oz 3 a1, ⟨.row, 3, 1, ((a0.length : Nat) : Int).toNat, .z z6_7⟩, ⟨(.ro true), 3, 1, m7_7, .z z7_7⟩]⟩
abbrev rDiv_l2_P (n : Nat) (a0 : List Int) (a1 : List Int) (i8_1 : Int) (k_l1 : (List Int) → (List Int) → Nat → Int → Option (List Int × Nat × List Int × Nat)) (r : List Int × Nat × List Int × Nat) (fu : Nat) : S → Prop := fun s => ∃ (z6_7 : List Int), ∃ (z7_7 : List Int), ∃ (m7_7 : Nat), s = rDiv_l2_E a0 a1 i8_1 z6_7 z7_7 m7_7 ∧ rDiv_l2 n a0 a1 i8_1 k_l1 fu z6_7 z7_7 m7_7 = some r
def rDiv_l1_E (a0 : List Int) (a1 : List Int) (z6_5 : List Int) (z7_5 : List Int) (m7_5 : Nat) (i8_1 : Int) : S := ⟨[(0, kH 0), (1, kH 1), (6, kH 2), (7, kH 3), (8, kI i8_1)], [], [oz 3 a0, oz 3 a1, ⟨.row, 3, 1, ((a0.length : Nat) : Int).toNat, .z z6_5⟩, ⟨(.ro true), 3, 1, m7_5, .z z7_5⟩]⟩
abbrev rDiv_l1_P (n : Nat) (a0 : List Int) (a1 : List Int) (r : List Int × Nat × List Int × Nat) (fu : Nat) : S → Prop := fun s => ∃ (z6_5 : List Int), ∃ (z7_5 : List Int), ∃ (m7_5 : Nat), ∃ (i8_1 : Int), s = rDiv_l1_E a0 a1 z6_5 z7_5 m7_5 i8_1 ∧ rDiv_l1 n a0 a1 fu z6_5 z7_5 m7_5 i8_1 = some r
def rDiv_R (r : List Int × Nat × List Int × Nat) : S := ⟨[(4, kH 0), (5, kH 1)], [], [⟨(.ro true), 3, 1, r.2.1, .z r.1⟩, ⟨(.ro true), 3, 1, r.2.2.2, .z r.2.2.1⟩]⟩
def rDiv_ct (n : Nat) (r : List Int × Nat × List Int × Nat) : Ct := ctc (rZ 3).rd fun _ l0 => ctc (rZ 3).rd fun _ l1 => ct0 fun H => ([rDiv n l0 l1 = some r], shA H.length (.t [.c (.wh 0), .c (.wh 1)]), shH H.length [⟨(.ro true), 3, 1, r.2.1, .z r.1⟩, ⟨(.ro true), 3, 1, r.2.2.2, .z r.2.2.1⟩])
theorem rDiv_ok (n : Nat) (r : List Int × Nat × List Int × Nat) : FnOk Tryd.prog Tr 78 (rDiv_ct n r) := by
 refine fnok Tryd.func78 ?_
 refine HO_c (rZ 3) fun l0 _ => HO_c (rZ 3) fun l1 _ => HO_0 tabO_dd (rDiv_R r) [.tmp 4, .tmp 5] [0, 1] 53 Tryd.func78 fun w hG h => ?_
 unfold rDiv at h
 have hT := tabO_dd
 refine Vrs hT [0, 1] ⟨[(0, kH 0), (1, kH 1)], [], [oz 3 l0, oz 3 l1]⟩ ?_
 obtain ⟨g1, g2, g3, h⟩ := gd3 h
 refine Vgs hT fN [] [] [0, 1, 2] ⟨[(0, kH 0), (1, kH 1), (6, kH 2)], [], [oz 3 l0, oz 3 l1, ⟨.row, 3, 1, ((l0.length : Nat) : Int).toNat, .z (List.replicate (((l0.length : Nat) : Int).toNat) 0)⟩]⟩ (aP g1 (aP g2 (aP g3 aN))) ?_
 refine Vrs hT [0, 1, 2] ⟨[(0, kH 0), (1, kH 1), (6, kH 2), (7, .c (.nils))], [], [oz 3 l0, oz 3 l1, ⟨.row, 3, 1, ((l0.length : Nat) : Int).toNat, .z (List.replicate (((l0.length : Nat) : Int).toNat) 0)⟩]⟩ ?_
 refine W_seq ?_
 obtain ⟨g4, h⟩ := gd_some h
 refine Vgs hT fN [] [] [0, 1, 2] ⟨[(0, kH 0), (1, kH 1), (6, kH 2), (7, .c (.nils)), (8, kI (((l0.length : Nat) : Int) - 1))], [], [oz 3 l0, oz 3 l1, ⟨.row, 3, 1, ((l0.length : Nat) : Int).toNat, .z (List.replicate (((l0.length : Nat) : Int).toNat) 0)⟩]⟩ (aP g4 aN) ?_
 refine W_block ?_
 refine Vc [.emp 7 3 1 (.z []) true] [0, 1, 2, 3] (rDiv_l1_E l0 l1 (List.replicate (((l0.length : Nat) : Int).toNat) 0) [] 0 (((l0.length : Nat) : Int) - 1)) (W_lp ((rDiv_l1_P n l0 l1 r)) n ⟨_, _, _, _, rfl, h⟩ ?_)
 rintro fu_l1 _ ⟨z6_5, z7_5, m7_5, i8_1, rfl, h⟩
 cases fu_l1 with
 | zero => cases h
 | succ fu_l1 =>
  refine ⟨fu_l1, rfl, ?_⟩
  rw [rDiv_l1] at h
  refine W_seq ?_
  refine Vrs hT [0, 1, 2, 3] ⟨[(0, kH 0), (1, kH 1), (6, kH 2), (7, kH 3), (8, kI i8_1), (17, kB (decide ((0 : Int) ≤ i8_1)))], [], [oz 3 l0, oz 3 l1, ⟨.row, 3, 1, ((l0.length : Nat) : Int).toNat, .z z6_5⟩, ⟨(.ro true), 3, 1, m7_5, .z z7_5⟩]⟩ ?_
  refine Vi ((decide ((0 : Int) ≤ i8_1))) (fun g21 => ?_) (fun g21 => ?_)
  ·replace h := bif_t h g21
   refine W_skip ?_
   refine W_seq ?_
   refine W_block ?_
   obtain ⟨g5, g6, g7, h⟩ := gd3 h
   obtain ⟨r27_2, g8, h⟩ := bind_some' h
   refine Vgs hT (fT 7 (rtrim_ok n r27_2) fN) [] [] [0, 1, 2, 5] ⟨[(0, kH 0), (1, kH 1), (6, kH 2), (7, .c (.sl 3 0 r27_2.2)), (8, kI i8_1)], [], [oz 3 l0, oz 3 l1, ⟨.row, 3, 1, ((l0.length : Nat) : Int).toNat, .z z6_5⟩, nz 3 ([(l0.getD i8_1.toNat 0)] ++ z7_5)]⟩ (aP g5 (aP g6 (aP g7 (aP g8 aN)))) ?_
   refine W_block ?_
   refine Vc [.vw 7 true] [0, 1, 2, 4] (rDiv_l2_E l0 l1 i8_1 z6_5 ((([(l0.getD i8_1.toNat 0)] ++ z7_5).drop 0).take r27_2.2) r27_2.2) (W_lp ((rDiv_l2_P n l0 l1 i8_1 (rDiv_l1 n l0 l1 fu_l1) r)) n ⟨_, _, _, rfl, h⟩ ?_)
   rintro fu_l2 _ ⟨z6_7, z7_7, m7_7, rfl, h⟩
   cases fu_l2 with
   | zero => cases h
   | succ fu_l2 =>
    refine ⟨fu_l2, rfl, ?_⟩
    rw [rDiv_l2] at h
    refine W_seq ?_
    obtain ⟨r30_8, g9, h⟩ := bind_some' h
    refine Vgs hT (fT 2 (rCmp_ok n r30_8) fN) [] [] [0, 1, 2, 3] ⟨[(0, kH 0), (1, kH 1), (6, kH 2), (7, kH 3), (8, kI i8_1), (31, kB (decide ((0 : Int) ≤ r30_8)))], [], [oz 3 l0, oz 3 l1, ⟨.row, 3, 1, ((l0.length : Nat) : Int).toNat, .z z6_7⟩, ⟨(.ro true), 3, 1, m7_7, .z z7_7⟩]⟩ (aP g9 aN) ?_
    refine Vi ((decide ((0 : Int) ≤ r30_8))) (fun g19 => ?_) (fun g19 => ?_)
    ·replace h := bif_t h g19
     refine W_skip ?_
     refine W_block ?_
     obtain ⟨r34_8, g10, h⟩ := bind_some' h
     refine Vgs hT (fT 2 (rfit_ok n r34_8) fN) [] [] [0, 1, 2, 3] ⟨[(0, kH 0), (1, kH 1), (6, kH 2), (7, kH 3), (8, kI i8_1), (9, kI r34_8)], [], [oz 3 l0, oz 3 l1, ⟨.row, 3, 1, ((l0.length : Nat) : Int).toNat, .z z6_7⟩, ⟨(.ro true), 3, 1, m7_7, .z z7_7⟩]⟩ (aP g10 aN) ?_
     obtain ⟨g11, g12, g13, g14, g15, h⟩ := gd5 h
     refine Vgs hT fN [] [] [0, 1, 2, 3] ⟨[(0, kH 0), (1, kH 1), (6, kH 2), (7, kH 3), (8, kI i8_1), (9, kI r34_8)], [], [oz 3 l0, oz 3 l1, ⟨.row, 3, 1, ((l0.length : Nat) : Int).toNat, .z (z6_7.set i8_1.toNat ((z6_7.getD i8_1.toNat 0) + r34_8))⟩, ⟨(.ro true), 3, 1, m7_7, .z z7_7⟩]⟩ (aP g11 (aP g12 (aP g13 (aP g14 (aP g15 aN))))) ?_
     obtain ⟨r48_8, g16, h⟩ := bind_some' h
     obtain ⟨r49_8, g17, h⟩ := bind_some' h
     refine Vg hT (fT 4 (rMul_ok n r48_8) (fT 5 (rSub_ok n r49_8) fN)) [] [] [0, 1, 2, 6] (rDiv_l2_E l0 l1 i8_1 (z6_7.set i8_1.toNat ((z6_7.getD i8_1.toNat 0) + r34_8)) r49_8.1 r49_8.2) (aP g16 (aP g17 aN)) ?_
     exact ⟨_, _, _, rfl, h⟩
    ·replace h := bif_f h g19
     refine Vc [] [0, 1, 2, 3] ⟨[(0, kH 0), (1, kH 1), (6, kH 2), (7, kH 3), (8, kI i8_1)], [], [oz 3 l0, oz 3 l1, ⟨.row, 3, 1, ((l0.length : Nat) : Int).toNat, .z z6_7⟩, ⟨(.ro true), 3, 1, m7_7, .z z7_7⟩]⟩ (W_exit ?_)
     obtain ⟨g18, h⟩ := gd_some h
     refine Vg hT fN [] [] [0, 1, 2, 3] (rDiv_l1_E l0 l1 z6_7 z7_7 m7_7 (i8_1 - 1)) (aP g18 aN) ?_
     exact ⟨_, _, _, _, rfl, h⟩
  ·replace h := bif_f h g21
   refine Vc [] [2, 3] ⟨[(6, kH 0), (7, kH 1)], [], [⟨.row, 3, 1, ((l0.length : Nat) : Int).toNat, .z z6_5⟩, ⟨(.ro true), 3, 1, m7_5, .z z7_5⟩]⟩ (W_exit ?_)
   obtain ⟨r51_1, g20, h⟩ := bind_some' h
   refine Vgs hT (fT 1 (rtrim_ok n r51_1) fN) [] [] [0, 1] ⟨[(4, .c (.sl 0 0 r51_1.2)), (5, kH 1)], [], [⟨.row, 3, 1, ((l0.length : Nat) : Int).toNat, .z z6_5⟩, ⟨(.ro true), 3, 1, m7_5, .z z7_5⟩]⟩ (aP g20 aN) ?_
   refine Vc [.vw 4 true] [2, 1] (rDiv_R (((z6_5.drop 0).take r51_1.2), r51_1.2, z7_5, m7_5)) (W_ret ?_)
   exact ⟨.inl rfl, by cases h; rfl⟩
def rRest_R (r : List Int × Nat) : S := ⟨[(4, kH 0)], [], [⟨(.ro true), 3, 1, r.2, .z r.1⟩]⟩
def rRest_ct (n : Nat) (r : List Int × Nat) : Ct := ctc (rZ 3).rd fun _ l0 => ctc (rZ 3).rd fun _ l1 => ct0 fun H => ([rRest n l0 l1 = some r], shA H.length (kH 0), shH H.length [⟨(.ro true), 3, 1, r.2, .z r.1⟩])
theorem rRest_ok (n : Nat) (r : List Int × Nat) : FnOk Tryd.prog Tr 55 (rRest_ct n r) := by
 refine fnok Tryd.func55 ?_
 refine HO_c (rZ 3) fun l0 _ => HO_c (rZ 3) fun l1 _ => HO_0 tabO_dd (rRest_R r) [.tmp 4] [0] 14 Tryd.func55 fun w hG h => ?_
 unfold rRest at h
 have hT := tabO_dd
 refine Vrs hT [0, 1] ⟨[(0, kH 0), (1, kH 1)], [], [oz 3 l0, oz 3 l1]⟩ ?_
 obtain ⟨r10, g1, h⟩ := bind_some' h
 refine Vgs hT (fT 2 (rDiv_ok n r10) fN) [] [] [3] ⟨[(6, kH 0)], [], [⟨(.ro true), 3, 1, r10.2.2.2, .z r10.2.2.1⟩]⟩ (aP g1 aN) ?_
 refine Vrs hT [0] ⟨[(4, kH 0)], [], [⟨(.ro true), 3, 1, r10.2.2.2, .z r10.2.2.1⟩]⟩ ?_
 refine Vc [] [0] (rRest_R (r10.2.2.1, r10.2.2.2)) (W_ret ?_)
 exact ⟨.inl rfl, by cases h; rfl⟩
def rExp_j1_E (a1 : List Int) (a2 : List Int) (r15 : List Int × Nat) (i9_2 : Int) (z7_11 : List Int) (m7_11 : Nat) : S := ⟨[(1, kH 0), (2, kH 1), (7, kH 2), (8, kH 3), (9, kI i9_2)], [], [oz 3 a1, oz 3 a2, ⟨(.ro true), 3, 1, m7_11, .z z7_11⟩, ⟨(.ro true), 3, 1, r15.2, .z r15.1⟩]⟩
abbrev rExp_j1_P (n : Nat) (a1 : List Int) (a2 : List Int) (r15 : List Int × Nat) (i9_2 : Int) (k_l1 : (List Int) → Nat → Int → Option (List Int × Nat)) (r : List Int × Nat) : S → Prop := fun s => ∃ (z7_11 : List Int), ∃ (m7_11 : Nat), s = rExp_j1_E a1 a2 r15 i9_2 z7_11 m7_11 ∧ rExp_j1 n a1 a2 r15 i9_2 k_l1 z7_11 m7_11 = some r
def rExp_l1_E (a1 : List Int) (a2 : List Int) (r15 : List Int × Nat) (z7_9 : List Int) (m7_9 : Nat) (i9_2 : Int) : S := ⟨[(1, kH 0), (2, kH 1), (7, kH 2), (8, kH 3), (9, kI i9_2)], [], [oz 3 a1, oz 3 a2, ⟨(.ro true), 3, 1, m7_9, .z z7_9⟩, ⟨(.ro true), 3, 1, r15.2, .z r15.1⟩]⟩
abbrev rExp_l1_P (n : Nat) (a1 : List Int) (a2 : List Int) (r15 : List Int × Nat) (r : List Int × Nat) (fu : Nat) : S → Prop := fun s => ∃ (z7_9 : List Int), ∃ (m7_9 : Nat), ∃ (i9_2 : Int), s = rExp_l1_E a1 a2 r15 z7_9 m7_9 i9_2 ∧ rExp_l1 n a1 a2 r15 fu z7_9 m7_9 i9_2 = some r
def rExp_R (r : List Int × Nat) : S := ⟨[(6, kH 0)], [], [⟨(.ro true), 3, 1, r.2, .z r.1⟩]⟩
def rExp_ct (n : Nat) (r : List Int × Nat) : Ct := ctc (rZ 3).rd fun _ l0 => ctc (rZ 3).rd fun _ l1 => ctc (rZ 3).rd fun _ l2 => ct0 fun H => ([rExp n l0 l1 l2 = some r], shA H.length (kH 0), shH H.length [⟨(.ro true), 3, 1, r.2, .z r.1⟩])
theorem rExp_ok (n : Nat) (r : List Int × Nat) : FnOk Tryd.prog Tr 33 (rExp_ct n r) := by
 refine fnok Tryd.func33 ?_
 refine HO_c (rZ 3) fun l0 _ => HO_c (rZ 3) fun l1 _ => HO_c (rZ 3) fun l2 _ => HO_0 tabO_dd (rExp_R r) [.tmp 6] [0] 45 Tryd.func33 fun w hG h => ?_
 unfold rExp at h
 have hT := tabO_dd
 refine Vrs hT [0, 1, 2] ⟨[(0, kH 0), (1, kH 1), (2, kH 2)], [], [oz 3 l0, oz 3 l1, oz 3 l2]⟩ ?_
 obtain ⟨r12, g1, h⟩ := bind_some' h
 refine Vgs hT (fT 2 (rRest_ok n r12) fN) [] [] [0, 1, 2, 4] ⟨[(0, kH 0), (1, kH 1), (2, kH 2), (7, kH 3)], [], [oz 3 l0, oz 3 l1, oz 3 l2, ⟨(.ro true), 3, 1, r12.2, .z r12.1⟩]⟩ (aP g1 aN) ?_
 obtain ⟨r15, g2, h⟩ := bind_some' h
 refine Vgs hT (fT 2 (rRest_ok n r15) fN) [] [] [1, 2, 3, 4] ⟨[(1, kH 0), (2, kH 1), (7, kH 2), (8, kH 3)], [], [oz 3 l1, oz 3 l2, ⟨(.ro true), 3, 1, r12.2, .z r12.1⟩, ⟨(.ro true), 3, 1, r15.2, .z r15.1⟩]⟩ (aP g2 aN) ?_
 refine W_seq ?_
 obtain ⟨g3, g4, h⟩ := gd2 h
 refine Vgs hT fN [] [] [0, 1, 2, 3] ⟨[(1, kH 0), (2, kH 1), (7, kH 2), (8, kH 3), (9, kI ((16 * ((l1.length : Nat) : Int)) - 1))], [], [oz 3 l1, oz 3 l2, ⟨(.ro true), 3, 1, r12.2, .z r12.1⟩, ⟨(.ro true), 3, 1, r15.2, .z r15.1⟩]⟩ (aP g3 (aP g4 aN)) ?_
 refine W_block ?_
 refine Vc [] [0, 1, 2, 3] (rExp_l1_E l1 l2 r15 r12.1 r12.2 ((16 * ((l1.length : Nat) : Int)) - 1)) (W_lp ((rExp_l1_P n l1 l2 r15 r)) n ⟨_, _, _, rfl, h⟩ ?_)
 rintro fu_l1 _ ⟨z7_9, m7_9, i9_2, rfl, h⟩
 cases fu_l1 with
 | zero => cases h
 | succ fu_l1 =>
  refine ⟨fu_l1, rfl, ?_⟩
  rw [rExp_l1] at h
  refine W_seq ?_
  refine Vrs hT [0, 1, 2, 3] ⟨[(1, kH 0), (2, kH 1), (7, kH 2), (8, kH 3), (9, kI i9_2), (21, kB (decide ((0 : Int) ≤ i9_2)))], [], [oz 3 l1, oz 3 l2, ⟨(.ro true), 3, 1, m7_9, .z z7_9⟩, ⟨(.ro true), 3, 1, r15.2, .z r15.1⟩]⟩ ?_
  refine Vi ((decide ((0 : Int) ≤ i9_2))) (fun g18 => ?_) (fun g18 => ?_)
  ·replace h := bif_t h g18
   refine Vc [] [0, 1, 2, 3] ⟨[(1, kH 0), (2, kH 1), (7, kH 2), (8, kH 3), (9, kI i9_2)], [], [oz 3 l1, oz 3 l2, ⟨(.ro true), 3, 1, m7_9, .z z7_9⟩, ⟨(.ro true), 3, 1, r15.2, .z r15.1⟩]⟩ (W_skip ?_)
   refine W_join (rExp_j1_P n l1 l2 r15 i9_2 (rExp_l1 n l1 l2 r15 fu_l1) r) ?_ ?_
   ·rintro _ ⟨z7_11, m7_11, rfl, h⟩
    unfold rExp_j1 at h
    obtain ⟨g5, h⟩ := gd_some h
    refine Vg hT fN [] [] [0, 1, 2, 3] (rExp_l1_E l1 l2 r15 z7_11 m7_11 (i9_2 - 1)) (aP g5 aN) ?_
    exact ⟨_, _, _, rfl, h⟩
   ·refine W_block ?_
    obtain ⟨r26_3, g6, h⟩ := bind_some' h
    obtain ⟨r28_3, g7, h⟩ := bind_some' h
    refine Vgs hT (fT 2 (rMul_ok n r26_3) (fT 4 (rRest_ok n r28_3) fN)) [] [] [0, 1, 5, 3] ⟨[(1, kH 0), (2, kH 1), (7, kH 2), (8, kH 3), (9, kI i9_2)], [], [oz 3 l1, oz 3 l2, ⟨(.ro true), 3, 1, r28_3.2, .z r28_3.1⟩, ⟨(.ro true), 3, 1, r15.2, .z r15.1⟩]⟩ (aP g6 (aP g7 aN)) ?_
    obtain ⟨g8, g9, g10, g11, g12, h⟩ := gd5 h
    obtain ⟨g13, g14, h⟩ := gd2 h
    refine Vgs hT fN [] [] [0, 1, 2, 3] ⟨[(1, kH 0), (2, kH 1), (7, kH 2), (8, kH 3), (9, kI i9_2), (38, kB ((bitI .and .i64 ((l1.getD ((Int.tdiv i9_2 16).toNat) 0) / 2 ^ ((Int.tmod i9_2 16).toNat)) 1) == 1))], [], [oz 3 l1, oz 3 l2, ⟨(.ro true), 3, 1, r28_3.2, .z r28_3.1⟩, ⟨(.ro true), 3, 1, r15.2, .z r15.1⟩]⟩ (aP g8 (aP g9 (aP g10 (aP g11 (aP g12 (aP g13 (aP g14 aN))))))) ?_
    refine Vi (((bitI .and .i64 ((l1.getD ((Int.tdiv i9_2 16).toNat) 0) / 2 ^ ((Int.tmod i9_2 16).toNat)) 1) == 1)) (fun g17 => ?_) (fun g17 => ?_)
    ·replace h := bif_t h g17
     obtain ⟨r41_3, g15, h⟩ := bind_some' h
     obtain ⟨r43_3, g16, h⟩ := bind_some' h
     refine Vg hT (fT 2 (rMul_ok n r41_3) (fT 4 (rRest_ok n r43_3) fN)) [] [] [0, 1, 5, 3] (rExp_j1_E l1 l2 r15 i9_2 r43_3.1 r43_3.2) (aP g15 (aP g16 aN)) ?_
     exact ⟨_, _, rfl, h⟩
    ·replace h := bif_f h g17
     refine Vc [] [0, 1, 2, 3] (rExp_j1_E l1 l2 r15 i9_2 r28_3.1 r28_3.2) (W_skip ?_)
     exact ⟨_, _, rfl, h⟩
  ·replace h := bif_f h g18
   refine Vc [] [2] ⟨[(7, kH 0)], [], [⟨(.ro true), 3, 1, m7_9, .z z7_9⟩]⟩ (W_exit ?_)
   refine Vrs hT [0] ⟨[(6, kH 0)], [], [⟨(.ro true), 3, 1, m7_9, .z z7_9⟩]⟩ ?_
   refine Vc [] [0] (rExp_R (z7_9, m7_9)) (W_ret ?_)
   exact ⟨.inl rfl, by cases h; rfl⟩
def rBytes_j1_E (a0 : List UInt8) (z3_2 : List Int) (i4_2 : Int) (i5_8 : Int) : S := ⟨[(0, kH 0), (3, kH 1), (4, kI i4_2), (5, kI i5_8)], [], [ob 5 a0, nz 3 z3_2]⟩
abbrev rBytes_j1_P (n : Nat) (a0 : List UInt8) (z3_2 : List Int) (i4_2 : Int) (k_l1 : (List Int) → Int → Option (List Int × Nat)) (r : List Int × Nat) : S → Prop := fun s => ∃ (i5_8 : Int), s = rBytes_j1_E a0 z3_2 i4_2 i5_8 ∧ rBytes_j1 n a0 z3_2 i4_2 k_l1 i5_8 = some r
def rBytes_l1_E (a0 : List UInt8) (z3_2 : List Int) (i4_2 : Int) : S := ⟨[(0, kH 0), (3, kH 1), (4, kI i4_2)], [], [ob 5 a0, nz 3 z3_2]⟩
abbrev rBytes_l1_P (n : Nat) (a0 : List UInt8) (r : List Int × Nat) (fu : Nat) : S → Prop := fun s => ∃ (z3_2 : List Int), ∃ (i4_2 : Int), s = rBytes_l1_E a0 z3_2 i4_2 ∧ rBytes_l1 n a0 fu z3_2 i4_2 = some r
def rBytes_R (r : List Int × Nat) : S := ⟨[(2, kH 0)], [], [⟨(.ro true), 3, 1, r.2, .z r.1⟩]⟩
def rBytes_ct (n : Nat) (r : List Int × Nat) : Ct := ctc (rB 5).rd fun _ l0 => ct0 fun H => ([rBytes n l0 = some r], shA H.length (kH 0), shH H.length [⟨(.ro true), 3, 1, r.2, .z r.1⟩])
theorem rBytes_ok (n : Nat) (r : List Int × Nat) : FnOk Tryd.prog Tr 30 (rBytes_ct n r) := by
 refine fnok Tryd.func30 ?_
 refine HO_c (rB 5) fun l0 _ => HO_0 tabO_dd (rBytes_R r) [.tmp 2] [0] 35 Tryd.func30 fun w hG h => ?_
 unfold rBytes at h
 have hT := tabO_dd
 refine Vrs hT [0] ⟨[(0, kH 0)], [], [ob 5 l0]⟩ ?_
 refine Vrs hT [0] ⟨[(0, kH 0), (3, .c (.nils))], [], [ob 5 l0]⟩ ?_
 refine W_seq ?_
 obtain ⟨g1, h⟩ := gd_some h
 refine Vgs hT fN [] [] [0] ⟨[(0, kH 0), (3, .c (.nils)), (4, kI (((l0.length : Nat) : Int) - 1))], [], [ob 5 l0]⟩ (aP g1 aN) ?_
 refine W_block ?_
 refine Vc [.nil 3 3 1 (.z [])] [0, 1] (rBytes_l1_E l0 [] (((l0.length : Nat) : Int) - 1)) (W_lp ((rBytes_l1_P n l0 r)) n ⟨_, _, rfl, h⟩ ?_)
 rintro fu_l1 _ ⟨z3_2, i4_2, rfl, h⟩
 cases fu_l1 with
 | zero => cases h
 | succ fu_l1 =>
  refine ⟨fu_l1, rfl, ?_⟩
  rw [rBytes_l1] at h
  refine W_seq ?_
  refine Vrs hT [0, 1] ⟨[(0, kH 0), (3, kH 1), (4, kI i4_2), (10, kB (decide ((0 : Int) ≤ i4_2)))], [], [ob 5 l0, nz 3 z3_2]⟩ ?_
  refine Vi ((decide ((0 : Int) ≤ i4_2))) (fun g13 => ?_) (fun g13 => ?_)
  ·replace h := bif_t h g13
   refine W_skip ?_
   refine W_seq ?_
   refine W_block ?_
   obtain ⟨g2, g3, h⟩ := gd2 h
   refine Vgs hT fN [] [] [0, 1] ⟨[(0, kH 0), (3, kH 1), (4, kI i4_2), (5, kI (((l0.getD i4_2.toNat 0).toNat : Nat) : Int))], [], [ob 5 l0, nz 3 z3_2]⟩ (aP g2 (aP g3 aN)) ?_
   refine W_join (rBytes_j1_P n l0 z3_2 i4_2 (rBytes_l1 n l0 fu_l1) r) ?_ ?_
   ·rintro _ ⟨i5_8, rfl, h⟩
    unfold rBytes_j1 at h
    obtain ⟨g4, h⟩ := gd_some h
    refine Vg hT fN [] [] [0, 3] ⟨[(0, kH 0), (3, kH 1), (4, kI i4_2)], [], [ob 5 l0, nz 3 (z3_2 ++ [i5_8])]⟩ (aP g4 aN) ?_
    obtain ⟨g5, h⟩ := gd_some h
    refine Vg hT fN [] [] [0, 1] (rBytes_l1_E l0 (z3_2 ++ [i5_8]) (i4_2 - 2)) (aP g5 aN) ?_
    exact ⟨_, _, rfl, h⟩
   ·refine W_seq ?_
    refine Vr hT [0, 1] ⟨[(0, kH 0), (3, kH 1), (4, kI i4_2), (5, kI (((l0.getD i4_2.toNat 0).toNat : Nat) : Int)), (19, kB (decide ((0 : Int) < i4_2)))], [], [ob 5 l0, nz 3 z3_2]⟩ ?_
    refine Vi ((decide ((0 : Int) < i4_2))) (fun g11 => ?_) (fun g11 => ?_)
    ·replace h := bif_t h g11
     obtain ⟨g6, g7, g8, g9, g10, h⟩ := gd5 h
     refine Vg hT fN [] [] [0, 1] (rBytes_j1_E l0 z3_2 i4_2 ((((l0.getD i4_2.toNat 0).toNat : Nat) : Int) + ((((l0.getD ((i4_2 - 1).toNat) 0).toNat : Nat) : Int) * 256))) (aP g6 (aP g7 (aP g8 (aP g9 (aP g10 aN))))) ?_
     exact ⟨_, rfl, h⟩
    ·replace h := bif_f h g11
     refine Vc [] [0, 1] (rBytes_j1_E l0 z3_2 i4_2 (((l0.getD i4_2.toNat 0).toNat : Nat) : Int)) (W_skip ?_)
     exact ⟨_, rfl, h⟩
  ·replace h := bif_f h g13
   refine Vc [] [1] ⟨[(3, kH 0)], [], [nz 3 z3_2]⟩ (W_exit ?_)
   obtain ⟨r34_2, g12, h⟩ := bind_some' h
   refine Vgs hT (fT 1 (rtrim_ok n r34_2) fN) [] [] [0] ⟨[(2, .c (.sl 0 0 r34_2.2))], [], [nz 3 z3_2]⟩ (aP g12 aN) ?_
   refine Vc [.vw 2 true] [1] (rBytes_R (((z3_2.drop 0).take r34_2.2), r34_2.2)) (W_ret ?_)
   exact ⟨.inl rfl, by cases h; rfl⟩
def rWrite_j1_E (a0 : List Int) (a1 : Int) (l6_1 : List UInt8) (i7_1 : Int) (i8_5 : Int) : S := ⟨[(0, kH 0), (1, kI a1), (6, kH 1), (7, kI i7_1), (8, kI i8_5)], [], [oz 3 a0, ⟨.row, 5, 1, a1.toNat, .b l6_1⟩]⟩
abbrev rWrite_j1_P (n : Nat) (a0 : List Int) (a1 : Int) (l6_1 : List UInt8) (i7_1 : Int) (k_l1 : (List UInt8) → Int → Option (List UInt8 × Nat × Bool)) (r : List UInt8 × Nat × Bool) : S → Prop := fun s => ∃ (i8_5 : Int), s = rWrite_j1_E a0 a1 l6_1 i7_1 i8_5 ∧ rWrite_j1 n a0 a1 l6_1 i7_1 k_l1 i8_5 = some r
def rWrite_l1_E (a0 : List Int) (a1 : Int) (l6_1 : List UInt8) (i7_1 : Int) : S := ⟨[(0, kH 0), (1, kI a1), (6, kH 1), (7, kI i7_1)], [], [oz 3 a0, ⟨.row, 5, 1, a1.toNat, .b l6_1⟩]⟩
abbrev rWrite_l1_P (n : Nat) (a0 : List Int) (a1 : Int) (r : List UInt8 × Nat × Bool) (fu : Nat) : S → Prop := fun s => ∃ (l6_1 : List UInt8), ∃ (i7_1 : Int), s = rWrite_l1_E a0 a1 l6_1 i7_1 ∧ rWrite_l1 n a0 a1 fu l6_1 i7_1 = some r
def rWrite_R (r : List UInt8 × Nat × Bool) : S := ⟨[(4, kH 0), (5, kB r.2.2)], [], [⟨.row, 5, 1, r.2.1, .b r.1⟩]⟩
def rWrite_ct (n : Nat) (r : List UInt8 × Nat × Bool) : Ct := ctc (rZ 3).rd fun _ l0 => ctc rI.rd fun _ l1 => ct0 fun H => ([rWrite n l0 l1 = some r], shA H.length (.t [.c (.wh 0), .c (.s (.b r.2.2))]), shH H.length [⟨.row, 5, 1, r.2.1, .b r.1⟩])
theorem rWrite_ok (n : Nat) (r : List UInt8 × Nat × Bool) : FnOk Tryd.prog Tr 32 (rWrite_ct n r) := by
 refine fnok Tryd.func32 ?_
 refine HO_c (rZ 3) fun l0 _ => HO_c rI fun l1 _ => HO_0 tabO_dd (rWrite_R r) [.tmp 4, .tmp 5] [0] 51 Tryd.func32 fun w hG h => ?_
 unfold rWrite at h
 have hT := tabO_dd
 refine Vrs hT [0] ⟨[(0, kH 0), (1, kI l1)], [], [oz 3 l0]⟩ ?_
 refine W_seq ?_
 refine W_seq ?_
 rcases Bool.eq_false_or_eq_true (decide (l1 < (0 : Int))) with g1 | g1
 ·replace h := bif_t h g1
  refine Vg hT fN [(2, true)] [] [0] ⟨[(0, kH 0), (1, kI l1), (16, kB true)], [], [oz 3 l0]⟩ (aP g1 aN) ?_
  refine Vi (true) (fun _ => ?_) (fun hb => by cases hb)
  refine Vrs hT [] ⟨[(4, .c (.nils)), (5, kB false)], [], []⟩ ?_
  refine Vc [.nil 4 5 1 (.b [])] [0] (rWrite_R ([], 0, false)) (W_ret ?_)
  exact ⟨.inl rfl, by cases h; rfl⟩
 ·replace h := bif_f h g1
  obtain ⟨r13, g2, h⟩ := bind_some' h
  refine Vg hT (fT 4 (rSize_ok n r13) fN) [(2, false)] [] [0] ⟨[(0, kH 0), (1, kI l1), (16, kB (decide (l1 < r13)))], [], [oz 3 l0]⟩ (aP g1 (aP g2 aN)) ?_
  refine Vi ((decide (l1 < r13))) (fun g24 => ?_) (fun g24 => ?_)
  ·replace h := bif_t h g24
   refine Vrs hT [] ⟨[(4, .c (.nils)), (5, kB false)], [], []⟩ ?_
   refine Vc [.nil 4 5 1 (.b [])] [0] (rWrite_R ([], 0, false)) (W_ret ?_)
   exact ⟨.inl rfl, by cases h; rfl⟩
  ·replace h := bif_f h g24
   refine W_skip ?_
   obtain ⟨g3, g4, g5, h⟩ := gd3 h
   refine Vgs hT fN [] [] [0, 1] ⟨[(0, kH 0), (1, kI l1), (6, kH 1)], [], [oz 3 l0, ⟨.row, 5, 1, l1.toNat, .b (List.replicate l1.toNat 0)⟩]⟩ (aP g3 (aP g4 (aP g5 aN))) ?_
   refine W_seq ?_
   refine Vrs hT [0, 1] ⟨[(0, kH 0), (1, kI l1), (6, kH 1), (7, kI 0)], [], [oz 3 l0, ⟨.row, 5, 1, l1.toNat, .b (List.replicate l1.toNat 0)⟩]⟩ ?_
   refine W_block ?_
   refine Vc [] [0, 1] (rWrite_l1_E l0 l1 (List.replicate l1.toNat 0) 0) (W_lp ((rWrite_l1_P n l0 l1 r)) n ⟨_, _, rfl, h⟩ ?_)
   rintro fu_l1 _ ⟨l6_1, i7_1, rfl, h⟩
   cases fu_l1 with
   | zero => cases h
   | succ fu_l1 =>
    refine ⟨fu_l1, rfl, ?_⟩
    rw [rWrite_l1] at h
    refine W_seq ?_
    refine W_seq ?_
    rcases Bool.eq_false_or_eq_true (decide (i7_1 < l1)) with g6 | g6
    ·replace h := bif_t h g6
     obtain ⟨g7, g8, h⟩ := gd2 h
     refine Vg hT fN [(3, true)] [] [0, 1] ⟨[(0, kH 0), (1, kI l1), (6, kH 1), (7, kI i7_1), (28, kB (decide ((Int.tdiv i7_1 2) < ((l0.length : Nat) : Int))))], [], [oz 3 l0, ⟨.row, 5, 1, l1.toNat, .b l6_1⟩]⟩ (aP g6 (aP g7 (aP g8 aN))) ?_
     refine Vi ((decide ((Int.tdiv i7_1 2) < ((l0.length : Nat) : Int)))) (fun g23 => ?_) (fun g23 => ?_)
     ·replace h := bif_t h g23
      refine W_skip ?_
      refine W_seq ?_
      refine W_block ?_
      obtain ⟨g9, g10, g11, g12, h⟩ := gd4 h
      refine Vgs hT fN [] [] [0, 1] ⟨[(0, kH 0), (1, kI l1), (6, kH 1), (7, kI i7_1), (8, kI (l0.getD ((Int.tdiv i7_1 2).toNat) 0))], [], [oz 3 l0, ⟨.row, 5, 1, l1.toNat, .b l6_1⟩]⟩ (aP g9 (aP g10 (aP g11 (aP g12 aN)))) ?_
      refine W_join (rWrite_j1_P n l0 l1 l6_1 i7_1 (rWrite_l1 n l0 l1 fu_l1) r) ?_ ?_
      ·rintro _ ⟨i8_5, rfl, h⟩
       unfold rWrite_j1 at h
       obtain ⟨g13, g14, g15, g16, g17, h⟩ := gd5 h
       refine Vg hT fN [] [] [0, 1] ⟨[(0, kH 0), (1, kI l1), (6, kH 1), (7, kI i7_1)], [], [oz 3 l0, ⟨.row, 5, 1, l1.toNat, .b (l6_1.set (((l1 - 1) - i7_1).toNat) (UInt8.ofInt (Int.tmod i8_5 256)))⟩]⟩ (aP g13 (aP g14 (aP g15 (aP g16 (aP g17 aN))))) ?_
       obtain ⟨g18, h⟩ := gd_some h
       refine Vg hT fN [] [] [0, 1] (rWrite_l1_E l0 l1 (l6_1.set (((l1 - 1) - i7_1).toNat) (UInt8.ofInt (Int.tmod i8_5 256))) (i7_1 + 1)) (aP g18 aN) ?_
       exact ⟨_, _, rfl, h⟩
      ·refine W_seq ?_
       obtain ⟨g19, h⟩ := gd_some h
       refine Vg hT fN [] [] [0, 1] ⟨[(0, kH 0), (1, kI l1), (6, kH 1), (7, kI i7_1), (8, kI (l0.getD ((Int.tdiv i7_1 2).toNat) 0)), (38, kB ((Int.tmod i7_1 2) == 1))], [], [oz 3 l0, ⟨.row, 5, 1, l1.toNat, .b l6_1⟩]⟩ (aP g19 aN) ?_
       refine Vi (((Int.tmod i7_1 2) == 1)) (fun g22 => ?_) (fun g22 => ?_)
       ·replace h := bif_t h g22
        obtain ⟨g20, g21, h⟩ := gd2 h
        refine Vg hT fN [] [] [0, 1] (rWrite_j1_E l0 l1 l6_1 i7_1 (Int.tdiv (l0.getD ((Int.tdiv i7_1 2).toNat) 0) 256)) (aP g20 (aP g21 aN)) ?_
        exact ⟨_, rfl, h⟩
       ·replace h := bif_f h g22
        refine Vc [] [0, 1] (rWrite_j1_E l0 l1 l6_1 i7_1 (l0.getD ((Int.tdiv i7_1 2).toNat) 0)) (W_skip ?_)
        exact ⟨_, rfl, h⟩
     ·replace h := bif_f h g23
      refine Vc [] [1] ⟨[(6, kH 0)], [], [⟨.row, 5, 1, l1.toNat, .b l6_1⟩]⟩ (W_exit ?_)
      refine Vrs hT [0] ⟨[(4, kH 0), (5, kB true)], [], [⟨.row, 5, 1, l1.toNat, .b l6_1⟩]⟩ ?_
      refine Vc [] [0] (rWrite_R (l6_1, l1.toNat, true)) (W_ret ?_)
      exact ⟨.inl rfl, by cases h; rfl⟩
    ·replace h := bif_f h g6
     refine Vg hT fN [(3, false)] [] [0, 1] ⟨[(0, kH 0), (1, kI l1), (6, kH 1), (7, kI i7_1), (28, kB false)], [], [oz 3 l0, ⟨.row, 5, 1, l1.toNat, .b l6_1⟩]⟩ (aP g6 aN) ?_
     refine Vi (false) (fun hb => by cases hb) (fun _ => ?_)
     refine Vc [] [1] ⟨[(6, kH 0)], [], [⟨.row, 5, 1, l1.toNat, .b l6_1⟩]⟩ (W_exit ?_)
     refine Vrs hT [0] ⟨[(4, kH 0), (5, kB true)], [], [⟨.row, 5, 1, l1.toNat, .b l6_1⟩]⟩ ?_
     refine Vc [] [0] (rWrite_R (l6_1, l1.toNat, true)) (W_ret ?_)
     exact ⟨.inl rfl, by cases h; rfl⟩
end Go.Proofs.YthichmclbiggmaaDoor
end
section
namespace Go.Sx
open Go Go.RowKit Go.Ch Go.Proofs.YthichmclbiggmaaDoor
theorem zpos {l : List Int} (h : l.length ≠ 0) : nZ l = nZ (l.take (l.length - 1)) + 65536 ^ (l.length - 1) * (l.getD (l.length - 1) 0).toNat := by
 have h1 := Z_take l (l.length - 1) (by omega)
 rwa [show l.length - 1 + 1 = l.length by omega, List.take_length] at h1
theorem lastZ {l : List Int} (h : l ≠ []) : l.getLast h = l.getD (l.length - 1) 0 := by
 have : l.length - 1 < l.length := by have := List.length_pos_iff.2 h; omega
 rw [List.getLast_eq_getElem, List.getD_eq_getElem?_getD, List.getElem?_eq_getElem this]; rfl
theorem Dz.get {l : List Int} (h : Dz l) (i : Nat) : 0 ≤ l.getD i 0 ∧ l.getD i 0 < 65536 := by
 by_cases hi : i < l.length
 ·rw [List.getD_eq_getElem?_getD, List.getElem?_eq_getElem hi]; exact h _ (List.getElem_mem hi)
 ·rw [List.getD_eq_getElem?_getD, List.getElem?_eq_none (by omega)]; decide
theorem Dz.take {l : List Int} (h : Dz l) (i : Nat) : Dz (l.take i) := fun x hx => h x (List.mem_of_mem_take hx)
theorem Dz.app {l m : List Int} (h : Dz l) (h2 : Dz m) : Dz (l ++ m) := fun x hx => (List.mem_append.1 hx).elim (h x) (h2 x)
theorem Dz.one {x : Int} (h : 0 ≤ x ∧ x < 65536) : Dz [x] := fun y hy => by rw [List.mem_singleton.1 hy]; exact h
theorem Dz.nil : Dz [] := fun x hx => by cases hx
theorem Dz.rep (n : Nat) : Dz (List.replicate n 0) := fun x hx => by rw [(List.mem_replicate.1 hx).2]; decide
theorem Dz.set {l : List Int} (h : Dz l) {x : Int} (hx : 0 ≤ x ∧ x < 65536) (i : Nat) : Dz (l.set i x) := fun y hy => (List.mem_or_eq_of_mem_set hy).elim (h y) fun e => by rw [e]; exact hx
theorem rtrim_l1_is (n : Nat) (a : List Int) (hd : Dz a) (ha : a.length ≤ 1000000) : ∀ (k fu : Nat), k < fu → k ≤ a.length → nZ (a.take k) = nZ a →
  ∃ m, rtrim_l1 n a fu (k : Int) = some (a, m) ∧ a.take m = nE (nZ a) ∧ m = (nE (nZ a)).length := by
 intro k
 have fin : ∀ k, k ≤ a.length → a.take k = nE (nZ a) → k = (nE (nZ a)).length := fun k h1 h2 => by rw [← h2, List.length_take]; omega
 induction k with
 | zero =>
  intro fu hf hk he
  cases fu with
  | zero => omega
  | succ fu =>
   have h0 : nZ a = 0 := by rw [← he]; rfl
   have h1 : a.take 0 = nE (nZ a) := by rw [h0, E_zero]; rfl
   exact ⟨0, by rw [rtrim_l1, ite_f (by simp), gd_pos (by omega), gd_pos (by omega)]; rfl, h1, fin 0 hk h1⟩
 | succ k ih =>
  intro fu hf hk he
  cases fu with
  | zero => omega
  | succ fu =>
   have e : (((k + 1 : Nat) : Int) - 1) = (k : Int) := by omega
   rw [rtrim_l1, ite_t (by simp <;> omega), e, gd_pos (okI64 (by omega) (by omega)), gd_pos (by omega), gd_pos (by omega), Int.toNat_natCast]
   have h1 := Z_take a k (by omega)
   by_cases hz : a.getD k 0 = 0
   ·rw [ite_t (by rw [hz]; rfl), gd_pos (okI64 (by omega) (by omega))]
    rw [hz] at h1
    exact ih fu (by omega) (by omega) (by rw [← he, h1]; rfl)
   ·rw [ite_f (by simp only [beq_eq_false_iff_ne]; exact hz), gd_pos (by omega), gd_pos (by omega)]
    have hl : (a.take (k + 1)).length = k + 1 := by rw [List.length_take]; omega
    have h2 : a.take (k + 1) = nE (nZ a) := by
     rw [← he]
     refine (E_Z (hd.take _) fun hn => ?_).symm
     rw [lastZ hn, hl, Nat.add_sub_cancel, List.getD_eq_getElem?_getD, List.getElem?_take_of_lt (by omega), ← List.getD_eq_getElem?_getD]
     exact hz
    exact ⟨k + 1, by rw [show (((k + 1 : Nat) : Int)).toNat = k + 1 by omega], h2, fin _ hk h2⟩
theorem rtrim_is {n : Nat} (hn : 18446744073709551616 ≤ n) {a : List Int} (hd : Dz a) (ha : a.length ≤ 1000000) : rtrim n a = some (a, (nE (nZ a)).length) ∧ (a.drop 0).take (nE (nZ a)).length = nE (nZ a) := by
 obtain ⟨m, h1, h2, h3⟩ := rtrim_l1_is n a hd ha a.length n (by omega) (Nat.le_refl _) (by rw [List.take_length])
 subst h3
 exact ⟨h1, h2⟩
theorem rOf_l1_is {n : Nat} (hn : 18446744073709551616 ≤ n) (a : List UInt32) (ha : a.length ≤ 100000) : ∀ (m i fu : Nat) (z : List Int), i + m = a.length → m < fu → z.length = 2 * i → Dz z → nZ z = nV (a.take i) →
  rOf_l1 n a fu z (i : Int) = some (nE (nV a), (nE (nV a)).length) := by
 intro m
 induction m with
 | zero =>
  intro i fu z hi hf hz hd he
  cases fu with
  | zero => omega
  | succ fu =>
   rw [List.take_of_length_le (by omega)] at he
   obtain ⟨h1, h2⟩ := rtrim_is hn hd (by omega)
   rw [rOf_l1, ite_f (by simp <;> omega), h1]
   simp only [Option.bind_some]
   rw [h2, he]
 | succ m ih =>
  intro i fu z hi hf hz hd he
  cases fu with
  | zero => omega
  | succ fu =>
   rw [rOf_l1, ite_t (by simp <;> omega), gd_pos (by omega), gd_pos (by omega), gd_pos (by decide), gd_pos (by omega), gd_pos (by omega), gd_pos (by decide), gd_pos (by unfold rmB; omega), gd_pos (okI64 (by omega) (by omega)), Int.toNat_natCast]
   have hX := u32_lt (a.getD i 0)
   have e1 : (a.getD i 0 % 65536).toNat = (a.getD i 0).toNat % 65536 := UInt32.toNat_mod _ _
   have e2 : (a.getD i 0 / 65536).toNat = (a.getD i 0).toNat / 65536 := UInt32.toNat_div _ _
   rw [e1, e2]
   refine ih (i + 1) fu _ (by omega) (by omega) (by simp <;> omega) (hd.app (by
    intro x hx
    rcases List.mem_cons.1 hx with rfl | hx
    ·omega
    ·rw [List.mem_singleton.1 hx]; omega)) ?_
   rw [Z_app, he, V_take', hz, Z_cons, Z_cons, Z_nil, Int.toNat_natCast, Int.toNat_natCast, Nat.pow_mul]
   have hdm := Nat.mod_add_div (a.getD i 0).toNat 65536
   show _ + 4294967296 ^ i * _ = _
   generalize (a.getD i 0).toNat % 65536 = x at *
   generalize (a.getD i 0).toNat / 65536 = y at *
   rw [← hdm]; rfl
theorem rOf_is {n : Nat} (hn : 18446744073709551616 ≤ n) {a : List UInt32} (ha : a.length ≤ 100000) : rOf n a = some (nE (nV a), (nE (nV a)).length) :=
 rOf_l1_is hn a ha a.length 0 n [] (by omega) (by omega) rfl Dz.nil rfl
theorem rdigit_is (n : Nat) (a : List Int) (i : Nat) : rdigit n a (i : Int) = some (a.getD i 0) := by
 unfold rdigit
 by_cases h : i < a.length
 ·rw [ite_t (by simp <;> omega), gd_pos (by omega), gd_pos (by omega), Int.toNat_natCast]
 ·rw [ite_f (by simp <;> omega), List.getD_eq_getElem?_getD, List.getElem?_eq_none (by omega)]; rfl
theorem rCmp_l1_is (n : Nat) (u v : List Int) (hu : Dz u) (hv : Dz v) (lu : Nat) (h1 : u.length = lu) (h2 : v.length = lu) (hlu : lu ≤ 1000000) : ∀ (j fu : Nat), j < fu → j ≤ lu → nZ (u.drop j) = nZ (v.drop j) →
  rCmp_l1 n u v fu ((j : Int) - 1) = some (cmpN (nZ u) (nZ v)) := by
 intro j
 induction j with
 | zero =>
  intro fu hf _ he
  cases fu with
  | zero => omega
  | succ fu => rw [rCmp_l1, ite_f (by simp), cmpN_eq (by simpa using he)]
 | succ j ih =>
  intro fu hf hj he
  cases fu with
  | zero => omega
  | succ fu =>
   have e : (((j + 1 : Nat) : Int) - 1) = (j : Int) := by omega
   have e1 := Z_drop u j (by omega)
   have e2 := Z_drop v j (by omega)
   have s1 := Z_split u j
   have s2 := Z_split v j
   have l1 := Z_lt (hu.take j)
   have l2 := Z_lt (hv.take j)
   have m1 : (u.take j).length = j := by simp; omega
   have m2 : (v.take j).length = j := by simp; omega
   have g1 := hu.get j
   have g2 := hv.get j
   rw [m1] at l1; rw [m2] at l2
   rw [e, rCmp_l1, ite_t (by simp), gd_pos (by omega), gd_pos (by omega), gd_pos (by omega), gd_pos (by omega)]
   simp only [Int.toNat_natCast]
   by_cases hne : u.getD j 0 = v.getD j 0
   ·rw [ite_f (by rw [hne]; simp), gd_pos (okI64 (by omega) (by omega))]
    exact ih fu (by omega) (by omega) (by rw [e1, e2, hne, he])
   ·rw [ite_t (by simp only [bne_iff_ne]; exact hne), gd_pos (by omega), gd_pos (by omega), gd_pos (by omega), gd_pos (by omega)]
    by_cases hlt : u.getD j 0 < v.getD j 0
    ·rw [ite_t (by simp only [decide_eq_true_eq]; exact hlt), cmpN_lt]
     rw [s1, s2]
     exact mul_pow_lt l1 (by omega)
    ·rw [ite_f (by simp only [decide_eq_false_iff_not]; exact hlt), cmpN_gt]
     rw [s1, s2]
     exact mul_pow_lt l2 (by omega)
theorem E_mono {x y : Nat} (h : x ≤ y) : (nE x).length ≤ (nE y).length := (E_len _ _).2 (Nat.lt_of_le_of_lt h ((E_len _ _).1 (Nat.le_refl _)))
theorem rCmp_is {n : Nat} (hn : 18446744073709551616 ≤ n) {x y : Nat} (ha : (nE x).length ≤ 1000000) (hb : (nE y).length ≤ 1000000) : rCmp n (nE x) (nE y) = some (cmpN x y) := by
 unfold rCmp
 by_cases h : (nE x).length < (nE y).length
 ·rw [ite_t (by simp <;> omega), ite_t (by simp <;> omega), cmpN_lt]
  refine Nat.lt_of_not_le fun h' => ?_
  have := E_mono h'; omega
 ·by_cases h' : (nE y).length < (nE x).length
  ·rw [ite_t (by simp <;> omega), ite_f (by simp <;> omega), cmpN_gt]
   refine Nat.lt_of_not_le fun h' => ?_
   have := E_mono h'; omega
  ·rw [ite_f (by simp <;> omega), gd_pos (okI64 (by omega) (by omega))]
   have hl : (nE y).length = (nE x).length := by omega
   have := rCmp_l1_is n (nE x) (nE y) (E_dz x) (E_dz y) (nE x).length rfl hl (by omega) (nE x).length n (by omega) (by omega) (by
    rw [List.drop_of_length_le (by omega), List.drop_of_length_le (by omega)])
   rw [Z_E, Z_E] at this
   exact this
theorem ppos (i : Nat) : 0 < 65536 ^ i := Nat.pow_pos (by decide)
theorem pow6 (i : Nat) : 65536 ^ (i + 1) = 65536 * 65536 ^ i := by rw [Nat.pow_succ, Nat.mul_comm]
theorem Z_take' (l : List Int) (i : Nat) : nZ (l.take (i + 1)) = nZ (l.take i) + 65536 ^ i * (l.getD i 0).toNat := by
 by_cases h : i < l.length
 ·exact Z_take l i h
 ·rw [List.take_of_length_le (by omega), List.take_of_length_le (by omega), List.getD_eq_getElem?_getD, List.getElem?_eq_none (by omega)]; simp
theorem tmodN (t : Nat) : Int.tmod (t : Int) 65536 = ((t % 65536 : Nat) : Int) := by rw [Int.tmod_eq_emod_of_nonneg (by omega)]; omega
theorem tdivN (t : Nat) : Int.tdiv (t : Int) 65536 = ((t / 65536 : Nat) : Int) := by rw [Int.tdiv_eq_ediv_of_nonneg (by omega)]; omega
theorem Dz.nat {l : List Int} (h : Dz l) (i : Nat) : l.getD i 0 = (((l.getD i 0).toNat : Nat) : Int) ∧ (l.getD i 0).toNat < 65536 := by
 have := h.get i; omega
theorem trim_is {n : Nat} (hn : 18446744073709551616 ≤ n) {a : List Int} (hd : Dz a) (ha : a.length ≤ 1000000) : ((rtrim n a).bind fun r => some (((a.drop 0).take r.2), r.2)) = some (nE (nZ a), (nE (nZ a)).length) := by
 obtain ⟨h1, h2⟩ := rtrim_is hn hd ha
 rw [h1]
 simp only [Option.bind_some]
 rw [h2]
theorem rSub_l1_is {n : Nat} (hn : 18446744073709551616 ≤ n) (a b : List Int) (hda : Dz a) (hdb : Dz b) (ha : a.length ≤ 900000) (hb : b.length ≤ a.length) (hab : nZ b ≤ nZ a) : ∀ (m i fu : Nat) (z : List Int) (c : Nat), i + m = a.length → m < fu → z.length = i → Dz z → c ≤ 1 → nZ z + nZ (b.take i) = nZ (a.take i) + 65536 ^ i * c →
  rSub_l1 n a b fu z (c : Int) (i : Int) = some (nE (nZ a - nZ b), (nE (nZ a - nZ b)).length) := by
 intro m
 induction m with
 | zero =>
  intro i fu z c h1 hf hz hd hc he
  cases fu with
  | zero => omega
  | succ fu =>
   rw [rSub_l1, ite_f (by simp <;> omega)]
   rw [List.take_of_length_le (by omega), List.take_of_length_le (by omega)] at he
   have h2 := Z_lt hd
   rw [hz] at h2
   have h3 : nZ z = nZ a - nZ b := by
    cases c with
    | zero => omega
    | succ c =>
     obtain rfl : c = 0 := by omega
     omega
   rw [trim_is hn hd (by omega), h3]
 | succ m ih =>
  intro i fu z c h1 hf hz hd hc he
  cases fu with
  | zero => omega
  | succ fu =>
   obtain ⟨ea, la⟩ := hda.nat i
   obtain ⟨eb, lb⟩ := hdb.nat i
   rw [rSub_l1, ite_t (by simp <;> omega), gd_pos (by omega), gd_pos (by omega), rdigit_is, Option.bind_some, Int.toNat_natCast, ea, eb, gd_pos (okI64 (by omega) (by omega)), gd_pos (okI64 (by omega) (by omega))]
   generalize (a.getD i 0).toNat = x at *
   generalize hg : (b.getD i 0).toNat = y at *
   have step : ∀ (d c' : Nat), d < 65536 → c' ≤ 1 → d + y + c = x + 65536 * c' → rSub_j1 n a b z (i : Int) (rSub_l1 n a b fu) (c' : Int) (d : Int) = some (nE (nZ a - nZ b), (nE (nZ a - nZ b)).length) := by
    intro d c' hd1 hc1 h
    unfold rSub_j1
    rw [gd_pos (by unfold rmB; omega), gd_pos (okI64 (by omega) (by omega))]
    refine ih (i + 1) fu _ _ (by omega) (by omega) (by rw [List.length_append, hz]; rfl) (hd.app (Dz.one ⟨by omega, by omega⟩)) hc1 ?_
    rw [Z_take', Z_take', Z_app, Z_cons, Z_nil, hz, pow6, Int.toNat_natCast, hg, show (a.getD i 0).toNat = x by omega]
    generalize 65536 ^ i = p at *
    clear ih
    have : p * (d + y + c) = p * (x + 65536 * c') := by rw [h]
    grind
   by_cases hlt : x < y + c
   ·rw [ite_t (by simp <;> omega), gd_pos (okI64 (by omega) (by omega)), show (x : Int) - (y : Int) - (c : Int) + 65536 = ((x + 65536 - y - c : Nat) : Int) by omega]
    exact step _ 1 (by omega) (by omega) (by omega)
   ·rw [ite_f (by simp <;> omega), show (x : Int) - (y : Int) - (c : Int) = ((x - y - c : Nat) : Int) by omega]
    exact step _ 0 (by omega) (by omega) (by omega)
theorem rSub_is {n : Nat} (hn : 18446744073709551616 ≤ n) {x y : Nat} (hx : (nE x).length ≤ 900000) (hxy : y ≤ x) : rSub n (nE x) (nE y) = some (nE (x - y), (nE (x - y)).length) := by
 have := rSub_l1_is hn (nE x) (nE y) (E_dz x) (E_dz y) hx (E_mono hxy) (by rw [Z_E, Z_E]; exact hxy) (nE x).length 0 n [] 0 (by omega) (by omega) rfl Dz.nil (by omega) rfl
 rw [Z_E, Z_E] at this
 exact this
def Nzz (l : List Int) (i : Nat) : Prop := ∀ k, i ≤ k → l.getD k 0 = 0
theorem getD_repZ (n k : Nat) : (List.replicate n (0 : Int)).getD k 0 = 0 := by
 rw [List.getD_eq_getElem?_getD, List.getElem?_replicate]; split <;> rfl
theorem Nzz.set {l : List Int} {i : Nat} (h : Nzz l i) (x : Int) : Nzz (l.set i x) (i + 1) := by
 intro k hk
 rw [getD_set_ne _ _ (by omega)]; exact h k (by omega)
theorem Nzz.Z_set {l : List Int} {i : Nat} (h : Nzz l i) (x : Int) (hi : i < l.length) : nZ (l.set i x) = nZ l + 65536 ^ i * x.toNat := by
 have := Go.Sx.Z_set l i x hi
 rw [h i (by omega)] at this
 simpa using this
theorem rMul_l2_is (n : Nat) (a b : List Int) (hda : Dz a) (hdb : Dz b) (ha : a.length ≤ 900000) (hb : b.length ≤ 90000) (i : Nat) (hi : i < a.length) (K : List Int → Int → Option (List Int × Nat)) (v0 : Nat) :
  ∀ (m k fu : Nat) (w : List Int) (c : Nat), k + m = b.length → m < fu → w.length = a.length + b.length → Dz w → Nzz w (i + b.length) → nZ w + 65536 ^ (i + k) * c = v0 + 65536 ^ i * ((a.getD i 0).toNat * nZ (b.take k)) → c < 65536 →
  ∃ w' : List Int, w'.length = a.length + b.length ∧ Dz w' ∧ Nzz w' (i + 1 + b.length) ∧ nZ w' = v0 + 65536 ^ i * ((a.getD i 0).toNat * nZ b) ∧ rMul_l2 n a b (i : Int) K fu w (c : Int) (k : Int) = K w' ((i + 1 : Nat) : Int) := by
 intro m
 induction m with
 | zero =>
  intro k fu w c hk hf hw hd hz hv hc
  cases fu with
  | zero => omega
  | succ fu =>
   refine ⟨w.set (i + b.length) (c : Int), by rw [List.length_set]; exact hw, hd.set ⟨by omega, by omega⟩ _, ?_, ?_, ?_⟩
   ·have := hz.set (c : Int)
    rwa [show i + b.length + 1 = i + 1 + b.length by omega] at this
   ·rw [hz.Z_set _ (by omega), Int.toNat_natCast]
    rwa [List.take_of_length_le (by omega), show k = b.length by omega] at hv
   ·rw [rMul_l2, ite_f (by simp <;> omega), gd_pos (okI64 (by omega) (by omega)), gd_pos (by omega), gd_pos (by omega), gd_pos (okI64 (by omega) (by omega))]
    rw [show ((i : Int) + (b.length : Nat)).toNat = i + b.length by omega]; rfl
 | succ m ih =>
  intro k fu w c hk hf hw hd hz hv hc
  cases fu with
  | zero => omega
  | succ fu =>
   have e1 : ((i : Int) + (k : Nat)).toNat = i + k := by omega
   obtain ⟨ea, la⟩ := hda.nat i
   obtain ⟨eb, lb⟩ := hdb.nat k
   obtain ⟨ew, lw⟩ := hd.nat (i + k)
   have hAB : (a.getD i 0).toNat * (b.getD k 0).toNat ≤ 65535 * 65535 := Nat.mul_le_mul (by omega) (by omega)
   have hV := Z_set w (i + k) (((c + (a.getD i 0).toNat * (b.getD k 0).toNat + (w.getD (i + k) 0).toNat) % 65536 : Nat) : Int) (by omega)
   rw [rMul_l2, ite_t (by simp <;> omega)]
   rw [e1, Int.toNat_natCast, Int.toNat_natCast, ea, eb, ew, ← Int.natCast_mul]
   generalize (a.getD i 0).toNat = x at *
   generalize hy : (b.getD k 0).toNat = y at *
   generalize (w.getD (i + k) 0).toNat = f at *
   rw [show (c : Int) + ((x * y : Nat) : Int) = ((c + x * y : Nat) : Int) by omega, show ((c + x * y : Nat) : Int) + (f : Int) = ((c + x * y + f : Nat) : Int) by omega, tmodN, tdivN]
   rw [gd_pos (by omega), gd_pos (by omega), gd_pos (by omega), gd_pos (by omega), gd_pos (okI64 (by omega) (by omega)), gd_pos (okI64 (by omega) (by omega)), gd_pos (okI64 (by omega) (by omega)), gd_pos (by omega), gd_pos (by omega), gd_pos (okI64 (by omega) (by omega)), gd_pos (okI64 (by omega) (by omega)), gd_pos (by decide), gd_pos (by omega), gd_pos (by omega), gd_pos (by decide), gd_pos (okI64 (by omega) (by omega)), gd_pos (okI64 (by omega) (by omega))]
   refine ih (k + 1) fu _ _ (by omega) (by omega) (by rw [List.length_set]; exact hw) (hd.set ⟨by omega, by omega⟩ _) ?_ ?_ (by omega)
   ·intro q hq
    rw [getD_set_ne _ _ (by omega)]; exact hz q hq
   ·rw [Z_take', show i + (k + 1) = (i + k) + 1 by omega, pow6, hy]
    rw [Int.toNat_natCast] at hV
    rw [Nat.pow_add] at *
    have hdm := Nat.mod_add_div (c + x * y + f) 65536
    generalize (c + x * y + f) % 65536 = s at *
    generalize (c + x * y + f) / 65536 = t at *
    generalize 65536 ^ i = p at *
    generalize 65536 ^ k = q at *
    clear hAB ih
    have : p * q * (s + 65536 * t) = p * q * (c + x * y + f) := by rw [hdm]
    grind
theorem rMul_l1_is {n : Nat} (hn : 18446744073709551616 ≤ n) (a b : List Int) (hda : Dz a) (hdb : Dz b) (ha : a.length ≤ 900000) (hb : b.length ≤ 90000) :
  ∀ (m i fu : Nat) (w : List Int), i + m = a.length → m < fu → w.length = a.length + b.length → Dz w → Nzz w (i + b.length) → nZ w = nZ (a.take i) * nZ b →
  rMul_l1 n a b fu w (i : Int) = some (nE (nZ a * nZ b), (nE (nZ a * nZ b)).length) := by
 intro m
 induction m with
 | zero =>
  intro i fu w hi hf hw hd hz hv
  cases fu with
  | zero => omega
  | succ fu =>
   rw [List.take_of_length_le (by omega)] at hv
   rw [rMul_l1, ite_f (by simp <;> omega), trim_is hn hd (by omega), hv]
 | succ m ih =>
  intro i fu w hi hf hw hd hz hv
  cases fu with
  | zero => omega
  | succ fu =>
   rw [rMul_l1, ite_t (by simp <;> omega)]
   obtain ⟨w', h1, hd', h2, h3, h4⟩ := rMul_l2_is n a b hda hdb ha hb i (by omega) (rMul_l1 n a b fu) (nZ w) b.length 0 n w 0 (by omega) (by omega) hw hd hz (by simp [Z_nil]) (by decide)
   have h4' : rMul_l2 n a b (i : Int) (rMul_l1 n a b fu) n w 0 0 = _ := h4
   rw [h4']
   refine ih (i + 1) fu w' (by omega) (by omega) h1 hd' h2 ?_
   rw [h3, hv, Z_take']; grind
theorem rMul_is' {n : Nat} (hn : 18446744073709551616 ≤ n) {a b : List Int} (hda : Dz a) (hdb : Dz b) (ha : a.length ≤ 90000) (hb : b.length ≤ 90000) : rMul n a b = some (nE (nZ a * nZ b), (nE (nZ a * nZ b)).length) := by
 unfold rMul
 rw [gd_pos (okI64 (by omega) (by omega)), gd_pos (by omega), gd_pos (by trivial), gd_pos (by unfold rmB; omega)]
 refine rMul_l1_is hn a b hda hdb (by omega) hb a.length 0 n _ (by omega) (by omega) (by simp <;> omega) (Dz.rep _) ?_ (by simp [Z_rep, Z_nil])
 intro k _
 exact getD_repZ _ _
theorem rMul_is {n : Nat} (hn : 18446744073709551616 ≤ n) {x y : Nat} (hx : (nE x).length ≤ 90000) (hy : (nE y).length ≤ 90000) : rMul n (nE x) (nE y) = some (nE (x * y), (nE (x * y)).length) := by
 have := rMul_is' hn (E_dz x) (E_dz y) hx hy
 rwa [Z_E, Z_E] at this
theorem E_last {y : Nat} (hy : y ≠ 0) : (nE y).length ≠ 0 ∧ ((nE y).getD ((nE y).length - 1) 0).toNat ≠ 0 := by
 have h1 : (nE y).length ≠ 0 := fun h => by
  have := (E_len y 0).1 (by omega)
  simp at this; omega
 refine ⟨h1, fun h => ?_⟩
 have h2 := zpos h1
 rw [h, Z_E] at h2
 have h3 := Z_lt ((E_dz y).take ((nE y).length - 1))
 rw [List.length_take, Nat.min_eq_left (by omega)] at h3
 have := (E_len y ((nE y).length - 1)).2 (by omega)
 omega
theorem tdivNN (a b : Nat) : Int.tdiv (a : Int) (b : Int) = ((a / b : Nat) : Int) := by rw [Int.tdiv_eq_ediv_of_nonneg (by omega)]; rfl
theorem rfit_j1_is (n d : Nat) (x y : Nat) (h1 : d * y ≤ x) (hxy : y ≤ x) : ∃ q : Nat, rfit_j1 n (d : Int) = some (q : Int) ∧ 1 ≤ q ∧ q * y ≤ x := by
 unfold rfit_j1
 by_cases h : d = 0
 ·subst h
  exact ⟨1, by rw [ite_t (by rfl)]; rfl, Nat.le_refl _, by omega⟩
 ·exact ⟨d, by rw [ite_f (by simp <;> omega)], by omega, h1⟩
theorem top_div {p N x d y vl : Nat} (hp : 0 < p) (hy : y < (N + 1) * p) (hd : d * (N + 1) ≤ x / p) : d * y ≤ x := by
 have h1 : d * y ≤ d * ((N + 1) * p) := Nat.mul_le_mul_left d (by omega)
 have h2 := Nat.mul_le_mul_right p hd
 have h3 := Nat.div_mul_le_self x p
 rw [Nat.mul_assoc] at h2
 omega
theorem rfit_is {n : Nat} {x y : Nat} (hy : y ≠ 0) (hl : (nE y).length ≤ 100000) (hxy : y ≤ x) (hx : x < 65536 * y) : ∃ q : Nat, rfit n (nE x) (nE y) = some (q : Int) ∧ 1 ≤ q ∧ q * y ≤ x := by
 obtain ⟨h0, hlast⟩ := E_last hy
 have hyl := (E_len y (nE y).length).1 (Nat.le_refl _)
 unfold rfit
 by_cases h1 : (nE y).length = 1
 ·rw [h1] at hyl
  have ey : (nE y).getD 0 0 = ((y : Nat) : Int) := by rw [E_get]; congr 1; omega
  have r1 : rdigit n (nE x) 1 = some ((nE x).getD 1 0) := rdigit_is n (nE x) 1
  have r0 : rdigit n (nE x) 0 = some ((nE x).getD 0 0) := rdigit_is n (nE x) 0
  rw [ite_t (by simp <;> omega), r1, Option.bind_some, r0, Option.bind_some]
  have e1 : (nE x).getD 1 0 = ((x / 65536 : Nat) : Int) := by rw [E_get]; congr 1; omega
  have e0 : (nE x).getD 0 0 = ((x % 65536 : Nat) : Int) := by rw [E_get]; congr 1; omega
  have ex : ((x / 65536 : Nat) : Int) * 65536 + ((x % 65536 : Nat) : Int) = (x : Int) := by omega
  have hdiv : x / y ≤ x := Nat.div_le_self x y
  have hdm := Nat.div_mul_le_self x y
  rw [e1, e0, ex, ey, tdivNN]
  generalize x / y = q at hdiv hdm ⊢
  rw [gd_pos (okI64 (by omega) (by omega)), gd_pos (okI64 (by omega) (by omega)), gd_pos (by omega), gd_pos (by omega), gd_pos (by omega), gd_pos (okI64 (by omega) (by omega))]
  exact rfit_j1_is n q x y hdm hxy
 ·rw [ite_f (by simp <;> omega)]
  obtain ⟨k, hk⟩ : ∃ k, (nE y).length = k + 2 := ⟨(nE y).length - 2, by omega⟩
  have i1 : (((nE y).length : Nat) : Int) - 1 = ((k + 1 : Nat) : Int) := by omega
  have i2 : (((nE y).length : Nat) : Int) - 2 = ((k : Nat) : Int) := by omega
  rw [i1, i2, rdigit_is, Option.bind_some, rdigit_is, Option.bind_some, rdigit_is, Option.bind_some, Int.toNat_natCast, Int.toNat_natCast, hk]
  rw [hk] at hyl
  have hp := ppos k
  have hp1 : 65536 ^ (k + 1) = 65536 ^ k * 65536 := Nat.pow_succ ..
  have hp2 : 65536 ^ (k + 2) = 65536 ^ k * (65536 * 65536) := by rw [Nat.pow_add]
  have hX : x / 65536 ^ k < 65536 * 65536 * 65536 := by
   rw [Nat.div_lt_iff_lt_mul hp]
   have : 65536 * 65536 * 65536 * 65536 ^ k = 65536 * 65536 ^ (k + 2) := by rw [hp2]; grind
   omega
  have hY : y / 65536 ^ k < 65536 * 65536 := by
   rw [Nat.div_lt_iff_lt_mul hp]
   have : 65536 * 65536 * 65536 ^ k = 65536 ^ (k + 2) := by rw [hp2]; grind
   omega
  have hx2 : x / 65536 ^ (k + 2) % 65536 = x / 65536 ^ k / (65536 * 65536) % 65536 := by rw [hp2, Nat.div_div_eq_div_mul]
  have hx1 : x / 65536 ^ (k + 1) % 65536 = x / 65536 ^ k / 65536 % 65536 := by rw [hp1, Nat.div_div_eq_div_mul]
  have hy1 : y / 65536 ^ (k + 1) % 65536 = y / 65536 ^ k / 65536 % 65536 := by rw [hp1, Nat.div_div_eq_div_mul]
  rw [E_get x, E_get x, E_get x, E_get y, E_get y, hx2, hx1, hy1]
  have hyp : y < (y / 65536 ^ k + 1) * 65536 ^ k := by
   rw [Nat.add_mul, Nat.one_mul]
   have := Nat.mod_add_div y (65536 ^ k)
   have h := Nat.mod_lt y hp
   rw [Nat.mul_comm] at this; omega
  generalize hX' : x / 65536 ^ k = X at *
  generalize hY' : y / 65536 ^ k = Y at *
  have a1 : ((X / (65536 * 65536) % 65536 : Nat) : Int) * 65536 + ((X / 65536 % 65536 : Nat) : Int) = ((X / 65536 : Nat) : Int) := by omega
  have a2 : ((X / 65536 : Nat) : Int) * 65536 + ((X % 65536 : Nat) : Int) = (X : Int) := by omega
  have a3 : ((Y / 65536 % 65536 : Nat) : Int) * 65536 + ((Y % 65536 : Nat) : Int) = (Y : Int) := by omega
  have a4 : (Y : Int) + 1 = ((Y + 1 : Nat) : Int) := by omega
  have hdl : X / (Y + 1) ≤ X := Nat.div_le_self _ _
  have hdm := Nat.div_mul_le_self X (Y + 1)
  rw [a1, a2, a3, a4, tdivNN]
  generalize X / (Y + 1) = q at hdl hdm ⊢
  rw [gd_pos (okI64 (by omega) (by omega)), gd_pos (okI64 (by omega) (by omega)), gd_pos (okI64 (by omega) (by omega)), gd_pos (okI64 (by omega) (by omega)), gd_pos (okI64 (by omega) (by omega)), gd_pos (okI64 (by omega) (by omega)), gd_pos (okI64 (by omega) (by omega)), gd_pos (okI64 (by omega) (by omega)), gd_pos (by omega), gd_pos (by omega), gd_pos (okI64 (by omega) (by omega)), gd_pos (okI64 (by omega) (by omega)), gd_pos (by omega), gd_pos (by omega), gd_pos (okI64 (by omega) (by omega)), gd_pos (okI64 (by omega) (by omega)), gd_pos (by omega)]
  refine rfit_j1_is n q x y (top_div (vl := 0) hp hyp ?_) hxy
  rw [hX']
  exact hdm
theorem E_one {d : Nat} (h : d < 65536) (h0 : d ≠ 0) : nE d = [(d : Int)] := by
 have := E_Z (l := [(d : Int)]) (Dz.one ⟨by omega, by omega⟩) (by simp; omega)
 rwa [show nZ [(d : Int)] = d by rw [Z_cons, Z_nil, Int.toNat_natCast]; omega] at this
theorem rDiv_l2_is {n : Nat} (hn : 18446744073709551616 ≤ n) (a : List Int) (y : Nat) (hy : y ≠ 0) (hyl : (nE y).length ≤ 10000) (ha : a.length ≤ 10000) (i : Nat) (hi : i < a.length) (K : List Int → List Int → Nat → Int → Option (List Int × Nat × List Int × Nat)) (v0 r0 : Nat) (hr0 : r0 < 65536 * y) :
  ∀ (m fu : Nat) (q : List Int) (r : Nat), r < (m + 1) * y → m < fu → m ≤ 65536 → q.length = a.length → Dz q → (q.getD i 0).toNat * y + r = r0 → nZ q * y + 65536 ^ i * r = v0 →
  ∃ (q' : List Int) (r' : Nat), q'.length = a.length ∧ Dz q' ∧ r' < y ∧ nZ q' * y + 65536 ^ i * r' = v0 ∧ (∀ k, k ≠ i → q'.getD k 0 = q.getD k 0) ∧ rDiv_l2 n a (nE y) (i : Int) K fu q (nE r) (nE r).length = K q' (nE r') (nE r').length ((i : Int) - 1) := by
 intro m
 induction m with
 | zero =>
  intro fu q r hr hf hm hq hd h1 h2
  cases fu with
  | zero => omega
  | succ fu =>
   have hry : r < y := by omega
   have hrl := E_mono (Nat.le_of_lt hry)
   refine ⟨q, r, hq, hd, hry, h2, fun _ _ => rfl, ?_⟩
   rw [rDiv_l2, rCmp_is hn (by omega) (by omega)]
   simp only [Option.bind_some]
   rw [cmpN_lt hry, ite_f (by decide), gd_pos (okI64 (by omega) (by omega))]
 | succ m ih =>
  intro fu q r hr hf hm hq hd h1 h2
  cases fu with
  | zero => omega
  | succ fu =>
   have hr65 : r < 65536 * y := by have := Nat.zero_le ((q.getD i 0).toNat * y); omega
   have hrl : (nE r).length ≤ (nE y).length + 1 := by
    rw [E_len, pow6]
    have := (E_len y (nE y).length).1 (Nat.le_refl _)
    omega
   rw [rDiv_l2, rCmp_is hn (by omega) (by omega)]
   simp only [Option.bind_some]
   by_cases hry : r < y
   ·refine ⟨q, r, hq, hd, hry, h2, fun _ _ => rfl, ?_⟩
    rw [cmpN_lt hry, ite_f (by decide), gd_pos (okI64 (by omega) (by omega))]
   ·obtain ⟨d, hd1, hd2, hd3⟩ := rfit_is (n := n) (x := r) hy (by omega) (Nat.le_of_not_lt hry) hr65
    obtain ⟨eq, lq⟩ := hd.nat i
    have hd4 : d < 65536 := by
     refine Nat.lt_of_mul_lt_mul_right (a := y) ?_
     omega
    have hsum : ((q.getD i 0).toNat + d) * y + (r - d * y) = r0 := by rw [Nat.add_mul]; omega
    have hd5 : (q.getD i 0).toNat + d < 65536 := by
     refine Nat.lt_of_mul_lt_mul_right (a := y) ?_
     omega
    have hV := Z_set q i (((q.getD i 0).toNat + d : Nat) : Int) (by omega)
    rw [ite_t (by simp only [decide_eq_true_eq]; refine Int.not_lt.1 fun h' => ?_; rw [cmpN_neg] at h'; omega), hd1]
    simp only [Option.bind_some]
    have hml := E_one hd4 (by omega)
    rw [gd_pos (by omega), gd_pos (by omega), gd_pos (okI64 (by rw [Int.toNat_natCast, eq]; omega) (by rw [Int.toNat_natCast, eq]; omega)), gd_pos (by omega), gd_pos (by omega), ← hml, rMul_is hn (by omega) (by rw [hml]; simp)]
    simp only [Option.bind_some]
    rw [Nat.mul_comm y d, rSub_is hn (by omega) hd3]
    simp only [Option.bind_some]
    rw [Int.toNat_natCast]
    generalize hx : (q.getD i 0).toNat = x at *
    rw [eq, show (x : Int) + (d : Int) = ((x + d : Nat) : Int) by omega]
    obtain ⟨q', r', k1, k2, k3, k4, k5, k6⟩ := ih fu (q.set i ((x + d : Nat) : Int)) (r - d * y) (by
     have : (m + 1 + 1) * y = (m + 1) * y + y := Nat.succ_mul _ _
     have : y ≤ d * y := Nat.le_mul_of_pos_left y hd2
     omega) (by omega) (by omega) (by rw [List.length_set]; exact hq) (hd.set ⟨by omega, by omega⟩ _) (by rw [getD_set_eq _ _ (by omega), Int.toNat_natCast]; exact hsum) (by
     rw [Int.toNat_natCast] at hV
     obtain ⟨r, rfl⟩ : ∃ t, r = t + d * y := ⟨r - d * y, by omega⟩
     rw [Nat.add_sub_cancel, ← h2]
     generalize 65536 ^ i = p at *
     have : nZ (q.set i ((x + d : Nat) : Int)) = nZ q + p * d := by
      rw [Nat.mul_add] at hV; omega
     rw [this]; grind)
    exact ⟨q', r', k1, k2, k3, k4, fun k hk => by rw [k5 k hk, getD_set_ne _ _ (by omega)], k6⟩
theorem rDiv_l1_is {n : Nat} (hn : 18446744073709551616 ≤ n) (a : List Int) (y : Nat) (hda : Dz a) (hy : y ≠ 0) (hyl : (nE y).length ≤ 10000) (ha : a.length ≤ 10000) :
  ∀ (j fu : Nat) (q : List Int) (r : Nat), j < fu → j ≤ a.length → q.length = a.length → Dz q → (∀ k, k < j → q.getD k 0 = 0) → r < y → nZ q * y + 65536 ^ j * r + nZ (a.take j) = nZ a →
  rDiv_l1 n a (nE y) fu q (nE r) (nE r).length ((j : Int) - 1) = some (nE (nZ a / y), (nE (nZ a / y)).length, nE (nZ a % y), (nE (nZ a % y)).length) := by
 intro j
 induction j with
 | zero =>
  intro fu q r hf hj hq hd hz hr he
  cases fu with
  | zero => omega
  | succ fu =>
   simp only [Nat.pow_zero, Nat.one_mul, List.take_zero, Z_nil, Nat.add_zero] at he
   obtain ⟨hq1, hq2⟩ := qr_of (W := nZ a) (V := y) (q := nZ q) (r := r) (by omega) hr
   obtain ⟨t1, t2⟩ := rtrim_is hn hd (by omega)
   rw [rDiv_l1, ite_f (by simp), t1, Option.bind_some, t2, hq1, ← hq2]
 | succ j ih =>
  intro fu q r hf hj hq hd hz hr he
  cases fu with
  | zero => omega
  | succ fu =>
   have hrl := E_mono (Nat.le_of_lt hr)
   obtain ⟨ea, la⟩ := hda.nat j
   have hZ : nZ ([a.getD j 0] ++ nE r) = (a.getD j 0).toNat + 65536 * r := by
    rw [Z_app, Z_cons, Z_nil, Z_E]; simp
   have hdz : Dz ([a.getD j 0] ++ nE r) := (Dz.one (hda.get j)).app (E_dz r)
   obtain ⟨t1, t2⟩ := rtrim_is hn hdz (by simp; omega)
   rw [hZ] at t1 t2
   rw [show ((j + 1 : Nat) : Int) - 1 = (j : Int) by omega, rDiv_l1, ite_t (by simp), gd_pos (by omega), gd_pos (by omega), gd_pos (by unfold rmB; omega), Int.toNat_natCast, t1, Option.bind_some, t2]
   have hr0 : (a.getD j 0).toNat + 65536 * r < 65536 * y := by omega
   obtain ⟨q', r', k1, k2, k3, k4, k5, k6⟩ := rDiv_l2_is hn a y hy hyl ha j (by omega) (rDiv_l1 n a (nE y) fu) (nZ q * y + 65536 ^ j * ((a.getD j 0).toNat + 65536 * r)) _ hr0 65535 n q ((a.getD j 0).toNat + 65536 * r) (by omega) (by omega) (by omega) hq hd (by rw [hz j (by omega)]; simp) rfl
   rw [k6]
   refine ih fu q' r' (by omega) (by omega) k1 k2 (fun k hk => by rw [k5 k (by omega)]; exact hz k (by omega)) k3 ?_
   rw [k4, ← he, Z_take', pow6]; grind
theorem rDiv_is {n : Nat} (hn : 18446744073709551616 ≤ n) {x y : Nat} (hx : (nE x).length ≤ 10000) (hyl : (nE y).length ≤ 10000) (hy : y ≠ 0) :
  rDiv n (nE x) (nE y) = some (nE (x / y), (nE (x / y)).length, nE (x % y), (nE (x % y)).length) := by
 unfold rDiv
 rw [gd_pos (by omega), gd_pos (by trivial), gd_pos (by unfold rmB; omega), gd_pos (okI64 (by omega) (by omega))]
 have := rDiv_l1_is hn (nE x) y (E_dz x) hy hyl hx (nE x).length n (List.replicate (nE x).length 0) 0 (by omega) (Nat.le_refl _) (by simp) (Dz.rep _) (fun k _ => getD_repZ _ _) (by omega) (by simp [Z_rep])
 rw [E_zero, Z_E] at this
 exact this
theorem rRest_is {n : Nat} (hn : 18446744073709551616 ≤ n) {x y : Nat} (hx : (nE x).length ≤ 10000) (hyl : (nE y).length ≤ 10000) (hy : y ≠ 0) :
  rRest n (nE x) (nE y) = some (nE (x % y), (nE (x % y)).length) := by
 unfold rRest
 rw [rDiv_is hn hx hyl hy]; rfl
theorem E_mul_len {x y k l : Nat} (hx : (nE x).length ≤ k) (hy : (nE y).length ≤ l) : (nE (x * y)).length ≤ k + l := by
 rw [E_len, Nat.pow_add]
 exact Nat.mul_lt_mul'' ((E_len x k).1 hx) ((E_len y l).1 hy)
theorem band1 (x : Nat) (h : x < 18446744073709551616) : bitI .and .i64 (x : Int) 1 = ((x % 2 : Nat) : Int) := by
 have e : (BitVec.ofInt 64 (x : Int) &&& BitVec.ofInt 64 1).toNat = x % 2 := by
  rw [BitVec.toNat_and]
  have e1 : (BitVec.ofInt 64 (x : Int)).toNat = x := by
   rw [BitVec.toNat_ofInt]; omega
  rw [e1]
  exact Nat.and_one_is_mod _
 show IntKind.i64.wrap (((BitVec.ofInt 64 (x : Int) &&& BitVec.ofInt 64 1).toNat : Nat) : Int) = _
 rw [e]
 exact okI64 (by omega) (by omega)
theorem bit_mod16 (x a r : Nat) (h : r < 16) : x / 2 ^ a % 65536 / 2 ^ r % 2 = x / 2 ^ (a + r) % 2 := by
 have e : (65536 : Nat) = 2 ^ r * (2 * 2 ^ (15 - r)) := by rw [show 2 * 2 ^ (15 - r) = 2 ^ (16 - r) by rw [Nat.mul_comm, ← Nat.pow_succ]; congr 1; omega, ← Nat.pow_add, show r + (16 - r) = 16 by omega]
 rw [e, Nat.mod_mul_right_div_self, Nat.div_div_eq_div_mul, ← Nat.pow_add, Nat.mod_mul_right_mod]
theorem rExp_l1_is {n : Nat} (hn : 18446744073709551616 ≤ n) (x e m : Nat) (lx : Nat) (hx : x < m) (he : (nE e).length ≤ 1000) (hm : (nE m).length ≤ 1000) :
  ∀ (j fu : Nat) (l : Nat), j < fu → j ≤ 16 * (nE e).length → l = (nE (x ^ (e / 2 ^ j) % m)).length →
  rExp_l1 n (nE e) (nE m) (nE x, lx) fu (nE (x ^ (e / 2 ^ j) % m)) l ((j : Int) - 1) = some (nE (x ^ e % m), (nE (x ^ e % m)).length) := by
 intro j
 induction j with
 | zero =>
  intro fu l hf hj hl
  cases fu with
  | zero => omega
  | succ fu => rw [rExp_l1, ite_f (by simp), hl]; simp
 | succ j ih =>
  intro fu l hf hj hl
  cases fu with
  | zero => omega
  | succ fu =>
   have hml := fun y => E_mono (Nat.le_of_lt (Nat.mod_lt y (show m > 0 by omega)))
   have hxl := E_mono (Nat.le_of_lt hx)
   have t1 : Int.tdiv (j : Int) 16 = ((j / 16 : Nat) : Int) := by rw [Int.tdiv_eq_ediv_of_nonneg (by omega)]; omega
   have t2 : Int.tmod (j : Int) 16 = ((j % 16 : Nat) : Int) := by rw [Int.tmod_eq_emod_of_nonneg (by omega)]; omega
   obtain ⟨p1, p2⟩ := pow_step x m (e / 2 ^ (j + 1)) 0
   have h1 := hml (x ^ (e / 2 ^ (j + 1)))
   have h2 := E_mul_len h1 h1
   have h3 := hml (x ^ (2 * (e / 2 ^ (j + 1))))
   have h4 := E_mul_len h3 hxl
   rw [show ((j + 1 : Nat) : Int) - 1 = (j : Int) by omega, rExp_l1, ite_t (by simp), rMul_is hn (by omega) (by omega), Option.bind_some, rRest_is hn (by omega) (by omega) (by omega), Option.bind_some, p2]
   rw [t1, t2, gd_pos (by decide), gd_pos (okI64 (by omega) (by omega)), gd_pos (by omega), gd_pos (by omega), gd_pos (by decide), gd_pos (by omega), gd_pos (by show _ ≤ ((64 : Nat) : Int); omega), Int.toNat_natCast, Int.toNat_natCast, E_get]
   have hb : e / 65536 ^ (j / 16) % 65536 / 2 ^ (j % 16) % 2 = e / 2 ^ j % 2 := by
    rw [show (65536 : Nat) ^ (j / 16) = 2 ^ (16 * (j / 16)) by rw [Nat.pow_mul], bit_mod16 _ _ _ (by omega), show 16 * (j / 16) + j % 16 = j by omega]
   have hb2 : ((e / 65536 ^ (j / 16) % 65536 : Nat) : Int) / 2 ^ (j % 16) = ((e / 65536 ^ (j / 16) % 65536 / 2 ^ (j % 16) : Nat) : Int) := by
    rw [Int.natCast_ediv]; congr 1
   have hb3 : e / 65536 ^ (j / 16) % 65536 / 2 ^ (j % 16) < 18446744073709551616 := by
    have := Nat.div_le_self (e / 65536 ^ (j / 16) % 65536) (2 ^ (j % 16))
    omega
   rw [hb2, band1 _ hb3, hb]
   have hh := half e j
   by_cases hbit : e / 2 ^ j % 2 = 1
   ·rw [ite_t (by rw [hbit]; rfl), rMul_is hn (by omega) (by omega), Option.bind_some, rRest_is hn (by omega) (by omega) (by omega), Option.bind_some]
    unfold rExp_j1
    rw [gd_pos (okI64 (by omega) (by omega)), ← p2, p1, show 2 * (e / 2 ^ (j + 1)) + 1 = e / 2 ^ j by omega]
    exact ih fu _ (by omega) (by omega) rfl
   ·rw [ite_f (by simp only [beq_eq_false_iff_ne]; omega)]
    unfold rExp_j1
    rw [gd_pos (okI64 (by omega) (by omega)), show 2 * (e / 2 ^ (j + 1)) = e / 2 ^ j by omega]
    exact ih fu _ (by omega) (by omega) rfl
theorem rExp_is {n : Nat} (hn : 18446744073709551616 ≤ n) {a e m : Nat} (ha : (nE a).length ≤ 1000) (he : (nE e).length ≤ 1000) (hm : (nE m).length ≤ 1000) (h0 : m ≠ 0) :
  rExp n (nE a) (nE e) (nE m) = some (nE (a ^ e % m), (nE (a ^ e % m)).length) := by
 unfold rExp
 have hd := rRest_is hn (x := 1) (y := m) (by rw [E_one (by decide) (by decide)]; decide) (by omega) h0
 rw [E_one (d := 1) (by decide) (by decide)] at hd
 have hd' : rRest n [1] (nE m) = _ := hd
 rw [hd', Option.bind_some, rRest_is hn (by omega) (by omega) h0, Option.bind_some, gd_pos (okI64 (by omega) (by omega)), gd_pos (okI64 (by omega) (by omega))]
 have hz : e / 2 ^ (16 * (nE e).length) = 0 := by
  rw [Nat.div_eq_of_lt]
  have := (E_len e (nE e).length).1 (Nat.le_refl _)
  rw [Nat.pow_mul]; exact this
 have := rExp_l1_is hn (a % m) e m (nE (a % m)).length (Nat.mod_lt _ (by omega)) he hm (16 * (nE e).length) n (nE (1 % m)).length (by omega) (Nat.le_refl _) (by rw [hz, Nat.pow_zero])
 rw [hz, Nat.pow_zero, Int.natCast_mul, ← Nat.pow_mod] at this
 exact this
end Go.Sx
end
section
namespace Go.Sx
open Go Go.RowKit Go.Ch Go.Proofs.YthichmclbiggmaaDoor
def nB (l : List UInt8) : Nat := vl 256 UInt8.toNat l.reverse
def dB (v : Nat) : List UInt8 := (dg 256 UInt8.ofNat v).reverse
theorem b_lt (x : UInt8) : x.toNat < 256 := x.toNat_lt
theorem b_of (x : Nat) (h : x < 256) : (UInt8.ofNat x).toNat = x := by simp; omega
theorem nB_dB (v : Nat) : nB (dB v) = v := by unfold nB dB; rw [List.reverse_reverse]; exact vl_dg _ _ _ (by decide) b_of v
theorem dB_len (v k : Nat) : (dB v).length ≤ k ↔ v < 256 ^ k := by unfold dB; rw [List.length_reverse]; exact dg_len _ _ (by decide) v k
theorem nB_lt (l : List UInt8) : nB l < 256 ^ l.length := by
 have := vl_lt 256 UInt8.toNat l.reverse fun x _ => b_lt x
 rwa [List.length_reverse] at this
theorem nB_nil : nB [] = 0 := rfl
theorem nB_cons (x : UInt8) (l : List UInt8) : nB (x :: l) = nB l + 256 ^ l.length * x.toNat := by
 unfold nB
 rw [List.reverse_cons, vl_app, List.length_reverse, vl_cons, vl_nil]; simp
theorem nB_inj : ∀ {a b : List UInt8}, a.length = b.length → nB a = nB b → a = b
 | [], [], _, _ => rfl
 | x :: a, y :: b, hl, h => by
  have hl' : a.length = b.length := by simpa using hl
  rw [nB_cons, nB_cons, hl'] at h
  have h1 := nB_lt a
  have h2 := nB_lt b
  rw [hl'] at h1
  have hp : 0 < 256 ^ b.length := Nat.pow_pos (by decide)
  have e1 : (nB a + 256 ^ b.length * x.toNat) % 256 ^ b.length = nB a := by rw [Nat.add_mul_mod_self_left, Nat.mod_eq_of_lt h1]
  have e2 : (nB b + 256 ^ b.length * y.toNat) % 256 ^ b.length = nB b := by rw [Nat.add_mul_mod_self_left, Nat.mod_eq_of_lt h2]
  have e3 : nB a = nB b := by rw [← e1, h, e2]
  have e4 : x.toNat = y.toNat := by
   rw [e3] at h
   exact Nat.eq_of_mul_eq_mul_left hp (by omega)
  rw [nB_inj hl' e3, UInt8.toNat_inj.1 e4]
 | [], _ :: _, hl, _ => by simp at hl
 | _ :: _, [], hl, _ => by simp at hl
theorem nB_set : ∀ (l : List UInt8) (i : Nat) (x : UInt8), i < l.length → nB (l.set (l.length - 1 - i) x) + 256 ^ i * (l.getD (l.length - 1 - i) 0).toNat = nB l + 256 ^ i * x.toNat
 | [], _, _, h => by simp at h
 | y :: t, i, x, h => by
  by_cases hi : i = t.length
  ·subst hi
   have e : (y :: t).length - 1 - t.length = 0 := by simp
   rw [e, List.set_cons_zero, nB_cons, nB_cons]; simp; omega
  ·have hi' : i < t.length := by simp at h; omega
   have e : (y :: t).length - 1 - i = (t.length - 1 - i) + 1 := by simp; omega
   have ih := nB_set t i x hi'
   rw [e, List.set_cons_succ, nB_cons, nB_cons, List.getD_cons_succ, List.length_set]; omega
theorem nB_rep (n : Nat) : nB (List.replicate n 0) = 0 := by
 unfold nB; rw [List.reverse_replicate]; exact vl_rep (z := (0 : UInt8)) 256 UInt8.toNat rfl n
theorem mod_step (v i : Nat) : v % 256 ^ (i + 1) = v % 256 ^ i + 256 ^ i * (v / 256 ^ i % 256) := Nat.mod_pow_succ
structure Wr (l : List UInt8) (n i v : Nat) : Prop where
 len : l.length = n
 z : ∀ k, k + i < n → l.getD k 0 = 0
 val : nB l = v % 256 ^ i
theorem Wr.start (n v : Nat) : Wr (List.replicate n 0) n 0 v := ⟨by simp, fun k _ => by rw [List.getD_eq_getElem?_getD, List.getElem?_replicate]; split <;> rfl, by rw [nB_rep]; simp [Nat.mod_one]⟩
theorem Wr.step {l : List UInt8} {n i v : Nat} (h : Wr l n i v) (hi : i < n) {x : UInt8} (hx : x.toNat = v / 256 ^ i % 256) : Wr (l.set (n - 1 - i) x) n (i + 1) v := by
 have hl := h.len
 have hs := nB_set l i x (by omega)
 rw [hl, h.z (n - 1 - i) (by omega), h.val] at hs
 refine ⟨by rw [List.length_set]; exact hl, fun k hk => by rw [getD_set_ne _ _ (by omega)]; exact h.z k (by omega), ?_⟩
 rw [mod_step, ← hx]
 simpa using hs
theorem limb_byte (v i : Nat) : v / 4294967296 ^ (i / 4) % 4294967296 / 2 ^ (8 * (i % 4)) % 256 = v / 256 ^ i % 256 := by
 have e1 : (4294967296 : Nat) ^ (i / 4) = 256 ^ (4 * (i / 4)) := by rw [Nat.pow_mul]
 have e2 : (2 : Nat) ^ (8 * (i % 4)) = 256 ^ (i % 4) := by rw [Nat.pow_mul]
 have e3 : (4294967296 : Nat) = 256 ^ (i % 4) * (256 * 256 ^ (3 - i % 4)) := by
  rw [show 256 * 256 ^ (3 - i % 4) = 256 ^ (4 - i % 4) by rw [Nat.mul_comm, ← Nat.pow_succ]; congr 1; omega, ← Nat.pow_add, show i % 4 + (4 - i % 4) = 4 by omega]
 rw [e1, e2]
 conv => lhs; rw [e3]
 rw [Nat.mod_mul_right_div_self, Nat.div_div_eq_div_mul, ← Nat.pow_add, Nat.mod_mul_right_mod, show 4 * (i / 4) + i % 4 = i by omega]
theorem dB_of {r : List UInt8} (h : r = [] ∨ (r.getD 0 0).toNat ≠ 0) : dB (nB r) = r := by
 refine nB_inj ?_ (nB_dB _)
 have h1 := nB_lt r
 have h2 := (dB_len (nB r) r.length).2 h1
 refine Nat.le_antisymm h2 ?_
 cases r with
 | nil => simp
 | cons x t =>
  simp only [List.getD_cons_zero] at h
  have hx : x.toNat ≠ 0 := h.resolve_left (by simp)
  refine Nat.le_of_not_lt fun hlt => ?_
  have h3 := (dB_len (nB (x :: t)) t.length).1 (by simp at hlt; omega)
  rw [nB_cons] at h3
  have := Nat.le_mul_of_pos_right (256 ^ t.length) (show 0 < x.toNat by omega)
  omega
theorem rSize_is (n : Nat) {v : Nat} (hl : (nE v).length ≤ 100000) : rSize n (nE v) = some (((dB v).length : Nat) : Int) := by
 unfold rSize rSize_j1
 rw [gd_pos (okI64 (by omega) (by omega))]
 by_cases h0 : v = 0
 ·subst h0
  rw [E_zero, ite_f (by decide)]
  simp [dB, dg_zero]
 ·obtain ⟨h1, h2⟩ := E_last h0
  have hz := zpos h1
  rw [Z_E] at hz
  have hlt := Z_lt ((E_dz v).take ((nE v).length - 1))
  rw [List.length_take, Nat.min_eq_left (by omega)] at hlt
  obtain ⟨g1, g2⟩ := (E_dz v).get ((nE v).length - 1)
  have e1 : (((nE v).length : Nat) : Int) - 1 = (((nE v).length - 1 : Nat) : Int) := by omega
  rw [ite_t (by simp <;> omega), e1, gd_pos (okI64 (by omega) (by omega)), gd_pos (by omega), gd_pos (by omega), Int.toNat_natCast]
  obtain ⟨k, hk⟩ : ∃ k, (nE v).length = k + 1 := ⟨(nE v).length - 1, by omega⟩
  have hk' : (nE v).length - 1 = k := by omega
  rw [hk'] at hz hlt h2 g1 g2
  rw [hk, Nat.add_sub_cancel]
  have hp : (65536 : Nat) ^ k = 256 ^ (2 * k) := by rw [Nat.pow_mul]
  rw [hp] at hz hlt
  generalize hx : (nE v).getD k 0 = x at *
  have hpp : 0 < 256 ^ (2 * k) := Nat.pow_pos (by decide)
  have q1 : 256 ^ (2 * k + 1) = 256 ^ (2 * k) * 256 := Nat.pow_succ ..
  have q2 : 256 ^ (2 * k + 2) = 256 ^ (2 * k) * 65536 := by rw [Nat.pow_add]
  by_cases h256 : x < 256
  ·rw [ite_t (by simpa using h256), gd_pos (okI64 (by omega) (by omega))]
   have a1 : (dB v).length ≤ 2 * k + 1 := by
    rw [dB_len, q1, hz]
    have := Nat.mul_le_mul_left (256 ^ (2 * k)) (show x.toNat + 1 ≤ 256 by omega)
    rw [Nat.mul_add] at this; omega
   have a2 : ¬ (dB v).length ≤ 2 * k := by
    rw [dB_len, hz]
    have := Nat.le_mul_of_pos_right (256 ^ (2 * k)) (show 0 < x.toNat by omega)
    omega
   congr 1; omega
  ·rw [ite_f (by simpa using h256)]
   have a1 : (dB v).length ≤ 2 * k + 2 := by
    rw [dB_len, q2, hz]
    have := Nat.mul_le_mul_left (256 ^ (2 * k)) (show x.toNat + 1 ≤ 65536 by omega)
    rw [Nat.mul_add] at this; omega
   have a2 : ¬ (dB v).length ≤ 2 * k + 1 := by
    rw [dB_len, hz, q1]
    have := Nat.mul_le_mul_left (256 ^ (2 * k)) (show 256 ≤ x.toNat by omega)
    omega
   congr 1; omega
theorem digit_byte (v i : Nat) : (if i % 2 = 1 then v / 65536 ^ (i / 2) % 65536 / 256 else v / 65536 ^ (i / 2) % 65536) % 256 = v / 256 ^ i % 256 := by
 have e1 : (65536 : Nat) ^ (i / 2) = 256 ^ (2 * (i / 2)) := by rw [Nat.pow_mul]
 rw [e1]
 by_cases h : i % 2 = 1
 ·rw [if_pos h]
  have e2 : (256 : Nat) ^ i = 256 ^ (2 * (i / 2)) * 256 := by rw [← Nat.pow_succ]; congr 1; omega
  rw [e2, ← Nat.div_div_eq_div_mul]; omega
 ·rw [if_neg h]
  have e2 : (256 : Nat) ^ i = 256 ^ (2 * (i / 2)) := by congr 1; omega
  rw [e2]; omega
theorem nB_snoc (l : List UInt8) (x : UInt8) : nB (l ++ [x]) = nB l * 256 + x.toNat := by
 unfold nB; rw [List.reverse_append, List.reverse_singleton, List.singleton_append, vl_cons]; omega
theorem V_inj : ∀ {a b : List UInt32}, a.length = b.length → nV a = nV b → a = b
 | [], [], _, _ => rfl
 | x :: a, y :: b, hl, h => by
  have h1 := u32_lt x
  have h2 := u32_lt y
  rw [V_cons, V_cons] at h
  rw [V_inj (a := a) (b := b) (by simpa using hl) (by omega), UInt32.toNat_inj.1 (show x.toNat = y.toNat by omega)]
 | [], _ :: _, hl, _ => by simp at hl
 | _ :: _, [], hl, _ => by simp at hl
theorem limb_get (w : List UInt32) (k : Nat) (h : k < w.length) : nV w / 4294967296 ^ k % 4294967296 = (w.getD k 0).toNat := by
 have h1 := V_split w k
 have h2 := V_drop w k h
 have h3 := V_lt (w.take k)
 rw [List.length_take, Nat.min_eq_left (by omega)] at h3
 have h4 := u32_lt (w.getD k 0)
 have hp : 0 < 4294967296 ^ k := Nat.pow_pos (by decide)
 rw [h1, Nat.add_mul_div_left _ _ hp, Nat.div_eq_of_lt h3, h2]; omega
theorem or_byte (o : UInt32) (x : UInt8) (s : Nat) (hs : s < 4) (ho : o.toNat % 256 ^ (s + 1) = 0) : (o ||| shl32 x.toUInt32 ((8 * s : Nat) : Int)).toNat = o.toNat + 256 ^ s * x.toNat := by
 have hx := b_lt x
 have e0 : (2 : Nat) ^ (8 * s) = 256 ^ s := by rw [Nat.pow_mul]
 have hle : 256 ^ s ≤ 16777216 := Nat.le_trans (Nat.pow_le_pow_right (by decide) (show s ≤ 3 by omega)) (by decide)
 have hxs : x.toNat * 256 ^ s < 256 ^ (s + 1) := by
  rw [Nat.pow_succ, Nat.mul_comm]
  exact Nat.mul_lt_mul_of_pos_left hx (Nat.pow_pos (by decide))
 have hsm : x.toNat * 256 ^ s ≤ 255 * 16777216 := Nat.mul_le_mul (by omega) hle
 have e1 : (shl32 x.toUInt32 ((8 * s : Nat) : Int)).toNat = x.toNat * 256 ^ s := by
  unfold shl32
  rw [if_pos (by omega), Int.toNat_natCast, UInt32.toNat_shiftLeft, UInt8.toNat_toUInt32]
  have : (UInt32.ofNat (8 * s)).toNat % 32 = 8 * s := by simp; omega
  rw [this, Nat.shiftLeft_eq, e0]; omega
 obtain ⟨q, hq⟩ := Nat.dvd_of_mod_eq_zero ho
 have e2 : (256 : Nat) ^ (s + 1) = 2 ^ (8 * (s + 1)) := by rw [Nat.pow_mul]
 have h3 := Nat.shiftLeft_add_eq_or_of_lt (i := 8 * (s + 1)) (b := x.toNat * 256 ^ s) (by rw [← e2]; exact hxs) q
 rw [Nat.shiftLeft_eq, ← e2] at h3
 rw [UInt32.toNat_or, e1, hq, Nat.mul_comm _ q, ← h3, Nat.mul_comm x.toNat]
theorem pRead_l1_is (n : Nat) (b : List UInt8) (hb : b.length ≤ 256) : ∀ (m i fu : Nat) (w : List UInt32), i + m = b.length → m < fu → w.length = (b.length + 3) / 4 → nV w = nB (b.take i) * 256 ^ (b.length - i) →
  ∃ r, pRead_l1 n b b.length fu w (i : Int) = some (r, (b.length + 3) / 4, none) ∧ r.length = (b.length + 3) / 4 ∧ nV r = nB b := by
 have t0 : Int.tdiv (((b.length : Nat) : Int) + 3) 4 = (((b.length + 3) / 4 : Nat) : Int) := by rw [Int.tdiv_eq_ediv_of_nonneg (by omega)]; omega
 intro m
 induction m with
 | zero =>
  intro i fu w hi hf hw hv
  cases fu with
  | zero => omega
  | succ fu =>
   refine ⟨w, by rw [pRead_l1, ite_f (by simp <;> omega), t0, Int.toNat_natCast], hw, ?_⟩
   rw [hv, List.take_of_length_le (by omega), show b.length - i = 0 by omega]; simp
 | succ m ih =>
  intro i fu w hi hf hw hv
  cases fu with
  | zero => omega
  | succ fu =>
   obtain ⟨at', hat⟩ : ∃ k, k = b.length - 1 - i := ⟨_, rfl⟩
   have e1 : (((b.length : Nat) : Int) - 1) - (i : Int) = (at' : Int) := by omega
   have t1 : Int.tdiv (at' : Int) 4 = ((at' / 4 : Nat) : Int) := by rw [Int.tdiv_eq_ediv_of_nonneg (by omega)]; omega
   have t2 : 8 * Int.tmod (at' : Int) 4 = ((8 * (at' % 4) : Nat) : Int) := by rw [Int.tmod_eq_emod_of_nonneg (by omega)]; omega
   rw [pRead_l1, ite_t (by simp <;> omega), e1, t0, t1, t2, Int.toNat_natCast, Int.toNat_natCast, Int.toNat_natCast]
   rw [gd_pos (by omega), gd_pos (by omega), gd_pos (okI64 (by omega) (by omega)), gd_pos (okI64 (by omega) (by omega)), gd_pos (by decide), gd_pos (okI64 (by omega) (by omega)), gd_pos (by omega), gd_pos (by omega), gd_pos (by decide), gd_pos (okI64 (by omega) (by omega)), gd_pos (by omega), gd_pos (by omega), gd_pos (by omega), gd_pos (okI64 (by omega) (by omega))]
   have hk : at' / 4 < w.length := by omega
   have hpw : (4294967296 : Nat) ^ (at' / 4) = 256 ^ (4 * (at' / 4)) := by rw [Nat.pow_mul]
   have hg := limb_get w (at' / 4) hk
   have hz : (w.getD (at' / 4) 0).toNat % 256 ^ (at' % 4 + 1) = 0 := by
    rw [← hg, hv, show b.length - i = 4 * (at' / 4) + (at' % 4 + 1) by omega, hpw, Nat.pow_add, Nat.mul_comm (256 ^ (4 * (at' / 4))), ← Nat.mul_assoc, Nat.mul_div_cancel _ (Nat.pow_pos (by decide))]
    have e3 : (4294967296 : Nat) = 256 ^ (at' % 4 + 1) * 256 ^ (3 - at' % 4) := by rw [← Nat.pow_add, show at' % 4 + 1 + (3 - at' % 4) = 4 by omega]
    rw [e3, Nat.mod_mul_right_mod]; exact Nat.mul_mod_left _ _
   have ho := or_byte (w.getD (at' / 4) 0) (b.getD i 0) (at' % 4) (by omega) hz
   have hV := V_set w (at' / 4) (w.getD (at' / 4) 0 ||| shl32 (b.getD i 0).toUInt32 ((8 * (at' % 4) : Nat) : Int)) hk
   generalize w.getD (at' / 4) 0 ||| shl32 (b.getD i 0).toUInt32 ((8 * (at' % 4) : Nat) : Int) = o at *
   refine ih (i + 1) fu _ (by omega) (by omega) (by rw [List.length_set]; exact hw) ?_
   have e4 : b.take (i + 1) = b.take i ++ [b.getD i 0] := by
    rw [List.take_succ_eq_append_getElem (by omega), List.getD_eq_getElem?_getD, List.getElem?_eq_getElem (by omega)]; rfl
   have e5 : 256 ^ (b.length - i) = 256 * 256 ^ at' := by rw [show b.length - i = at' + 1 by omega, Nat.pow_succ, Nat.mul_comm]
   have e6 : (256 : Nat) ^ at' = 4294967296 ^ (at' / 4) * 256 ^ (at' % 4) := by rw [hpw, ← Nat.pow_add]; congr 1; omega
   rw [e4, nB_snoc, show b.length - (i + 1) = at' by omega]
   rw [e5] at hv
   have : nV (w.set (at' / 4) o) = nV w + 256 ^ at' * (b.getD i 0).toNat := by
    rw [ho, Nat.mul_add, ← Nat.mul_assoc, ← e6] at hV
    omega
   rw [this, hv]; grind
theorem D_len_dB (v : Nat) : (nD v).length = ((dB v).length + 3) / 4 := by
 have h : ∀ k, (nD v).length ≤ k ↔ (dB v).length ≤ 4 * k := fun k => by rw [D_len, dB_len, Nat.pow_mul]
 have h2 := (h (((dB v).length + 3) / 4)).2 (by omega)
 have h3 := (h (nD v).length).1 (Nat.le_refl _)
 omega
theorem pRead_l2_is {n : Nat} (hn : 18446744073709551616 ≤ n) (v : Nat) : ∀ (m fu : Nat) (l : List UInt8), l.length = m → m < fu → l.length ≤ 100000 → nB l = v →
  pRead_l2 n fu l l.length = some (if 256 < (dB v).length then ([], 0, some 4) else (nD v, (nD v).length, none)) := by
 have fin : ∀ (l : List UInt8), l.length ≤ 100000 → nB l = v → (l = [] ∨ (l.getD 0 0).toNat ≠ 0) → pRead_j1 n l l.length = some (if 256 < (dB v).length then ([], 0, some 4) else (nD v, (nD v).length, none)) := by
  intro l hl hv h0
  have hd := dB_of h0
  rw [hv] at hd
  unfold pRead_j1
  by_cases h256 : 256 < l.length
  ·rw [ite_t (by simp; omega), hd, if_pos h256]
  ·have t0 : Int.tdiv (((l.length : Nat) : Int) + 3) 4 = (((l.length + 3) / 4 : Nat) : Int) := by rw [Int.tdiv_eq_ediv_of_nonneg (by omega)]; omega
   rw [ite_f (by simp; omega), hd, if_neg h256, t0, Int.toNat_natCast, gd_pos (okI64 (by omega) (by omega)), gd_pos (by decide), gd_pos (okI64 (by omega) (by omega)), gd_pos (by omega), gd_pos (by trivial), gd_pos (by unfold rmB; omega)]
   obtain ⟨r, h1, h2, h3⟩ := pRead_l1_is n l (by omega) l.length 0 n (List.replicate ((l.length + 3) / 4) 0) (by omega) (by omega) (by simp) (by rw [V_rep]; simp [nB_nil])
   have hlen : (nD v).length = (l.length + 3) / 4 := by rw [D_len_dB, hd]
   have hr : r = nD v := V_inj (by rw [h2, hlen]) (by rw [h3, V_D, hv])
   rw [hr] at h1
   rw [hlen]
   exact h1
 intro m
 induction m with
 | zero =>
  intro fu l hl hf h8 hv
  cases fu with
  | zero => omega
  | succ fu =>
   obtain rfl := List.eq_nil_of_length_eq_zero hl
   rw [pRead_l2, ite_f (by simp)]
   exact fin [] h8 hv (.inl rfl)
 | succ m ih =>
  intro fu l hl hf h8 hv
  cases fu with
  | zero => omega
  | succ fu =>
   match l, hl with
   | x :: l, hl =>
    rw [pRead_l2, ite_t (by simp <;> omega), gd_pos (by omega), gd_pos (by simp <;> omega)]
    simp only [List.getD_cons_zero]
    by_cases hx : x = 0
    ·rw [ite_t (by rw [hx]; rfl), gd_pos (by omega), gd_pos (by simp; omega)]
     have e : ((x :: l).drop 1).take ((x :: l).length - 1) = l := by simp
     rw [e, show (x :: l).length - 1 = l.length by simp]
     exact ih fu l (by simpa using hl) (by omega) (by simp at h8; omega) (by rw [← hv, nB_cons, hx]; simp)
    ·rw [ite_f (by simp only [beq_eq_false_iff_ne]; exact hx)]
     exact fin (x :: l) h8 hv (.inr (by simp only [List.getD_cons_zero]; exact fun h => hx (UInt8.toNat_inj.1 h)))
theorem pRead_is {n : Nat} (hn : 18446744073709551616 ≤ n) {l : List UInt8} (hl : l.length ≤ 100000) : pRead n l = some (if 256 < (dB (nB l)).length then ([], 0, some 4) else (nD (nB l), (nD (nB l)).length, none)) :=
 pRead_l2_is hn (nB l) l.length n l rfl (by omega) hl rfl
theorem rBytes_l1_is {n : Nat} (hn : 18446744073709551616 ≤ n) (a : List UInt8) (ha : a.length ≤ 100000) : ∀ (m c fu : Nat) (z : List Int), a.length ≤ 2 * c + m → 2 * c ≤ a.length + 1 → m < fu → z.length = c → Dz z → nZ z = nB (a.drop (a.length - 2 * c)) →
  rBytes_l1 n a fu z ((a.length : Int) - 1 - 2 * (c : Int)) = some (nE (nB a), (nE (nB a)).length) := by
 intro m
 induction m using Nat.strongRecOn with
 | _ m ih =>
  intro c fu z h1 h2 hf hz hd hv
  cases fu with
  | zero => omega
  | succ fu =>
   by_cases hlt : 2 * c < a.length
   ·obtain ⟨i, hi⟩ : ∃ k, k = a.length - 1 - 2 * c := ⟨_, rfl⟩
    have e1 : (a.length : Int) - 1 - 2 * (c : Int) = (i : Int) := by omega
    have hx := b_lt (a.getD i 0)
    have d1 : a.drop i = a.getD i 0 :: a.drop (i + 1) := by
     rw [List.drop_eq_getElem_cons (show i < a.length by omega), List.getD_eq_getElem?_getD, List.getElem?_eq_getElem (show i < a.length by omega)]; rfl
    rw [e1, rBytes_l1, ite_t (by simp), gd_pos (by omega), gd_pos (by omega)]
    have hpw : (65536 : Nat) ^ c = 256 ^ (2 * c) := by rw [Nat.pow_mul]
    have hdl : (a.drop (i + 1)).length = 2 * c := by simp; omega
    have hv' : nZ z = nB (a.drop (i + 1)) := by rw [hv]; congr 2; omega
    unfold rBytes_j1
    by_cases h0 : 0 < i
    ·have e2 : ((i : Int) - 1).toNat = i - 1 := by omega
     have hy := b_lt (a.getD (i - 1) 0)
     have d2 : a.drop (i - 1) = a.getD (i - 1) 0 :: a.drop i := by
      rw [List.drop_eq_getElem_cons (show i - 1 < a.length by omega), List.getD_eq_getElem?_getD, List.getElem?_eq_getElem (show i - 1 < a.length by omega), show i - 1 + 1 = i by omega]; rfl
     rw [ite_t (by simpa using h0), e2, Int.toNat_natCast, gd_pos (okI64 (by omega) (by omega)), gd_pos (by omega), gd_pos (by omega), gd_pos (okI64 (by omega) (by omega)), gd_pos (okI64 (by omega) (by omega)), gd_pos (by unfold rmB; omega), gd_pos (okI64 (by omega) (by omega))]
     rw [show (i : Int) - 2 = (a.length : Int) - 1 - 2 * ((c + 1 : Nat) : Int) by omega]
     refine ih (m - 1) (by omega) (c + 1) fu _ (by omega) (by omega) (by omega) (by rw [List.length_append, hz]; rfl) (hd.app (Dz.one ⟨by omega, by omega⟩)) ?_
     rw [Z_app, Z_cons, Z_nil, hz, hv', hpw, show a.length - 2 * (c + 1) = i - 1 by omega, d2, d1, nB_cons, nB_cons, List.length_cons, hdl, Nat.pow_succ]
     have e3 : (((a.getD i 0).toNat : Int) + ((a.getD (i - 1) 0).toNat : Int) * 256).toNat = (a.getD i 0).toNat + (a.getD (i - 1) 0).toNat * 256 := by omega
     rw [e3]; grind
    ·obtain rfl : i = 0 := by omega
     rw [ite_f (by simp), show ((0 : Nat) : Int).toNat = 0 from rfl, gd_pos (by unfold rmB; omega), gd_pos (okI64 (by omega) (by omega)), show ((0 : Nat) : Int) - 2 = (a.length : Int) - 1 - 2 * ((c + 1 : Nat) : Int) by omega]
     refine ih (m - 1) (by omega) (c + 1) fu _ (by omega) (by omega) (by omega) (by rw [List.length_append, hz]; rfl) (hd.app (Dz.one ⟨by omega, by omega⟩)) ?_
     rw [Z_app, Z_cons, Z_nil, hz, hv', hpw, show a.length - 2 * (c + 1) = 0 by omega, d1, nB_cons, hdl]
     have e3 : (((a.getD 0 0).toNat : Nat) : Int).toNat = (a.getD 0 0).toNat := rfl
     rw [e3]; simp
   ·have hc : rtrim n z = some (z, (nE (nZ z)).length) ∧ (z.drop 0).take (nE (nZ z)).length = nE (nZ z) := rtrim_is hn hd (by omega)
    rw [rBytes_l1, ite_f (by simp; omega), hc.1, Option.bind_some, hc.2, hv, show a.length - 2 * c = 0 by omega, List.drop_zero]
theorem rBytes_is {n : Nat} (hn : 18446744073709551616 ≤ n) {a : List UInt8} (ha : a.length ≤ 100000) : rBytes n a = some (nE (nB a), (nE (nB a)).length) := by
 unfold rBytes
 rw [gd_pos (okI64 (by omega) (by omega))]
 have := rBytes_l1_is hn a ha a.length 0 n [] (by omega) (by omega) (by omega) rfl Dz.nil (by simp [Z_nil, nB_nil])
 simpa using this
def padB (k v : Nat) : List UInt8 := List.replicate (k - (dB v).length) 0 ++ dB v
theorem padB_len {k v : Nat} (h : v < 256 ^ k) : (padB k v).length = k := by
 have := (dB_len v k).2 h
 unfold padB; simp; omega
theorem nB_app0 (k : Nat) (l : List UInt8) : nB (List.replicate k 0 ++ l) = nB l := by
 induction k with
 | zero => rfl
 | succ k ih => rw [List.replicate_succ, List.cons_append, nB_cons, ih]; simp
theorem nB_padB (k v : Nat) : nB (padB k v) = v := by unfold padB; rw [nB_app0, nB_dB]
theorem eq_padB {k v : Nat} {l : List UInt8} (hl : l.length = k) (hv : nB l = v) : l = padB k v := by
 have hlt : v < 256 ^ k := by rw [← hv, ← hl]; exact nB_lt l
 exact nB_inj (by rw [hl, padB_len hlt]) (by rw [hv, nB_padB])
theorem pWrite_lk (n : Nat) (a : List UInt32) (v : Nat) (ha : (a.drop 0).take (nD v).length = nD v) (h64 : (nD v).length ≤ 64) (s : Nat) (hs : s ≤ 256) : ∀ (m i fu : Nat) (l : List UInt8), i + m = 4 * (nD v).length → m < fu → (i ≤ s → Wr l s i v) → (s ≤ i → Wr l s s v ∧ v % 256 ^ i = v % 256 ^ s) →
  pWrite_l1 n a (s : Int) (a, (nD v).length) fu l (i : Int) = some (if v < 256 ^ s then (padB s v, s, none) else ([], 0, some 1)) := by
 intro m
 induction m with
 | zero =>
  intro i fu l hi hf h1 h2
  cases fu with
  | zero => omega
  | succ fu =>
   have hvi : v % 256 ^ i = v := Nat.mod_eq_of_lt (by
    have := (D_len v (nD v).length).1 (Nat.le_refl _)
    rwa [show (4294967296 : Nat) = 256 ^ 4 from rfl, ← Nat.pow_mul, show 4 * (nD v).length = i by omega] at this)
   have fin : l.length = s ∧ nB l = v := by
    by_cases hle : i ≤ s
    ·have := h1 hle; exact ⟨this.len, by rw [this.val]; exact hvi⟩
    ·have := h2 (by omega); exact ⟨this.1.len, by rw [this.1.val, ← this.2]; exact hvi⟩
   have hlt : v < 256 ^ s := by rw [← fin.2, ← fin.1]; exact nB_lt l
   rw [pWrite_l1, ite_f (by simp <;> omega), if_pos hlt, Int.toNat_natCast, eq_padB fin.1 fin.2]
 | succ m ih =>
  intro i fu l hi hf h1 h2
  cases fu with
  | zero => omega
  | succ fu =>
   have t1 : Int.tdiv (i : Int) 4 = ((i / 4 : Nat) : Int) := by rw [Int.tdiv_eq_ediv_of_nonneg (by omega)]; omega
   have t2 : 8 * Int.tmod (i : Int) 4 = ((8 * (i % 4) : Nat) : Int) := by rw [Int.tmod_eq_emod_of_nonneg (by omega)]; omega
   have e1 : ((s : Int) - 1 - (i : Int)).toNat = s - 1 - i := by omega
   have e2 := shr32_is ((nD v).getD (i / 4) 0) (8 * (i % 4)) (by omega)
   have hb : ((shr32 ((nD v).getD (i / 4) 0) ((8 * (i % 4) : Nat) : Int)).toUInt8).toNat = v / 256 ^ i % 256 := by rw [UInt32.toNat_toUInt8, e2, D_get, ← limb_byte]
   rw [pWrite_l1, ite_t (by simp <;> omega), t1, t2, e1, gd_pos (by decide), gd_pos (okI64 (by omega) (by omega)), gd_pos (by omega), gd_pos (by omega), gd_pos (by decide), gd_pos (okI64 (by omega) (by omega)), gd_pos (by omega)]
   simp only [ha, Int.toNat_natCast]
   generalize (shr32 ((nD v).getD (i / 4) 0) ((8 * (i % 4) : Nat) : Int)).toUInt8 = x at hb
   by_cases hlt : i < s
   ·rw [ite_t (decide_eq_true (by omega)), gd_pos (okI64 (by omega) (by omega)), gd_pos (okI64 (by omega) (by omega)), gd_pos (by omega), gd_pos (by omega)]
    unfold pWrite_j1
    rw [gd_pos (okI64 (by omega) (by omega))]
    have hw := (h1 (by omega)).step hlt hb
    refine ih (i + 1) fu _ (by omega) (by omega) (fun _ => hw) (fun hge => ?_)
    obtain rfl : s = i + 1 := by omega
    exact ⟨hw, rfl⟩
   ·rw [ite_f (decide_eq_false (by omega))]
    by_cases hx : x = 0
    ·subst hx
     rw [ite_f (by simp)]
     unfold pWrite_j1
     rw [gd_pos (okI64 (by omega) (by omega))]
     have := h2 (by omega)
     refine ih (i + 1) fu l (by omega) (by omega) (fun hle => by omega) (fun _ => ⟨this.1, ?_⟩)
     rw [mod_step, ← hb, this.2]; simp
    ·rw [ite_t (by simpa using hx)]
     have hne : v / 256 ^ i % 256 ≠ 0 := by rw [← hb]; exact fun h => hx (UInt8.toNat_inj.1 (by rw [h]; rfl))
     have hge : 256 ^ s ≤ v := by
      have h3 : 256 ^ i ≤ v := Nat.le_of_not_lt fun h => hne (by rw [Nat.div_eq_of_lt h])
      exact Nat.le_trans (Nat.pow_le_pow_right (by decide) (by omega)) h3
     rw [if_neg (by omega)]
theorem pWrite_k {n : Nat} (hn : 18446744073709551616 ≤ n) {a : List UInt32} (ha : a.length ≤ 1000000) {s : Nat} (hs : s ≤ 256) :
  pWrite n a (s : Int) = some (if (nD (nV a)).length ≤ 64 then (if nV a < 256 ^ s then (padB s (nV a), s, none) else ([], 0, some 1)) else ([], 0, some 4)) := by
 unfold pWrite
 rw [ptrim_is hn ha, Option.bind_some]
 by_cases h : (nD (nV a)).length ≤ 64
 ·rw [ite_f (by simp <;> omega), ite_f (by simp <;> omega), ite_f (by simp <;> omega), gd_pos (by omega), gd_pos rfl, gd_pos (by unfold rmB; omega), gd_pos (okI64 (by omega) (by omega)), if_pos h]
  exact pWrite_lk n a (nV a) (tk ha) h s hs (4 * (nD (nV a)).length) 0 n _ (by omega) (by omega) (fun _ => Wr.start _ _) (fun h0 => by
   obtain rfl : s = 0 := by omega
   exact ⟨Wr.start _ _, rfl⟩)
 ·rw [ite_t (by simp <;> omega), if_neg h]
end Go.Sx
end
